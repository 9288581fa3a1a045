/- Contract of code.Read. -/
import Derived.Test.YthiapebodpkamaaReadW
import Derived.Deep.CutBlock
namespace Go.Proofs.Ythiapebodpkamaa
open Go.RowKit
def ReadPost (w : World) (l : List Int) (e : Ending) (w' : World) : Prop :=
  Below w.heap.size w w' ∧ match readB l with
  | some c => ∃ vs bs is, e = .returned (.tuple #[.agg #[.string c.name, vs, bs, is], .int .i64 0]) ∧ CodeRd w' c vs bs is
  | none => e = .returned (.tuple #[.agg #[.string ⟨#[]⟩, .slice none 0 0, .slice none 0 0, .slice none 0 0], .int .i64 130])
theorem Try.sizeCodeR : (Try.prog.info? 32).map (·.size) = some 4 := by kernel_rfl
theorem res_cell_tmpR {P : Program} {fn : Func} {p u : Tmp} {ty : TypeId} (h : fn.results = #[.cell p ty, .tmp u]) (tmps : Array Value) (w : World) (g : Nat) {t : TypeId} {cs : Array Value} {fr : Nat × Nat} {d : TypeDesc}
    (hp : tmps.getD p undef = .pointer (some ⟨g, 0, none⟩)) (hg : w.heap[g]? = some (.cells cs t fr))
    (hu : P.underlying ty = some d) (hd : (match d with | .struct _ | .array _ _ => true | _ => false) = true) (hi : (P.info? ty).map (·.size) = some cs.size) :
    (results fn tmps).run P w = .ok (.tuple #[.agg cs, tmps.getD u undef]) w := by
  rw [results_cell_tmp h, hp]
  simp [asAddr, run_loadVar_row w g t ty cs fr d hg hu hd hi, Result.andThen]
theorem read_no {w w' : World} {l : List Int} (hb : Below w.heap.size w w') (h : readB l = none) : ReadPost w l (.returned (.tuple #[.agg #[.string ⟨#[]⟩, .slice none 0 0, .slice none 0 0, .slice none 0 0], .int .i64 130])) w' := by
  unfold ReadPost
  rw [h]
  exact ⟨hb, rfl⟩
theorem read_yes {w w' : World} {l : List Int} {c : GCode} {vs bs is : Value} (hb : Below w.heap.size w w') (h : readB l = some c) (hr : CodeRd w' c vs bs is) : ReadPost w l (.returned (.tuple #[.agg #[.string c.name, vs, bs, is], .int .i64 0])) w' := by
  unfold ReadPost
  rw [h]
  exact ⟨hb, vs, bs, is, rfl, hr⟩
theorem varInfo : ∃ i, Try.prog.info? 41 = some i ∧ i.zero = some (.agg #[.string ⟨#[]⟩, .int .u8 0, .int .u8 0, .int .i64 0]) ∧ i.size = 4 ∧ i.bytes = 32 := by
  have h : (Try.prog.info? 41).map (fun i => (i.zero, i.size, i.bytes)) = some (some (.agg #[.string ⟨#[]⟩, .int .u8 0, .int .u8 0, .int .i64 0]), 4, 32) := by kernel_rfl
  obtain ⟨i, h1, h2⟩ := Option.map_eq_some_iff.1 h
  simp only [Prod.mk.injEq] at h2
  exact ⟨i, h1, h2.1, h2.2.1, h2.2.2⟩
theorem insInfoR : ∃ i, Try.prog.info? 38 = some i ∧ i.zero = some (.agg #[.int .u8 0, .int .u8 0, .int .i64 0, .int .i64 0]) ∧ i.size = 4 ∧ i.bytes = 24 := by
  have h : (Try.prog.info? 38).map (fun i => (i.zero, i.size, i.bytes)) = some (some (.agg #[.int .u8 0, .int .u8 0, .int .i64 0, .int .i64 0]), 4, 24) := by kernel_rfl
  obtain ⟨i, h1, h2⟩ := Option.map_eq_some_iff.1 h
  simp only [Prod.mk.injEq] at h2
  exact ⟨i, h1, h2.1, h2.2.1, h2.2.2⟩
theorem kindInfo : ∃ i, Try.prog.info? 42 = some i ∧ i.zero = some (.int .u8 0) ∧ i.size = 1 ∧ i.bytes = 1 := by
  have h : (Try.prog.info? 42).map (fun i => (i.zero, i.size, i.bytes)) = some (some (.int .u8 0), 1, 1) := by kernel_rfl
  obtain ⟨i, h1, h2⟩ := Option.map_eq_some_iff.1 h
  simp only [Prod.mk.injEq] at h2
  exact ⟨i, h1, h2.1, h2.2.1, h2.2.2⟩
theorem var_one (y : GVar) : ∀ u ∈ encVar y, u.oneCell' = true := by
  intro u hu
  simp only [encVar, List.mem_cons, List.not_mem_nil, or_false] at hu
  rcases hu with rfl | rfl | rfl | rfl <;> rfl
theorem ins_oneR (y : GIns) : ∀ u ∈ encIns y, u.oneCell' = true := by
  intro u hu
  simp only [encIns, List.mem_cons, List.not_mem_nil, or_false] at hu
  rcases hu with rfl | rfl | rfl | rfl <;> rfl
theorem ho_C {α : Type} {E : TypeId} {k : Nat} {enc : α → List Value} {w : World} {C : Nat} {v : Value} {xs : List α} (h : Own E k enc w (C + 1) v xs) (e : v.ownBlock = some C) : False := by
  have := (World.ownsRow.lt h C e).1
  omega
theorem kind_one (y : Int) : ∀ u ∈ oneU8 y, u.oneCell' = true := by
  intro u hu
  simp only [oneU8, List.mem_cons, List.not_mem_nil, or_false] at hu
  subst hu
  rfl
theorem kinds_snoc {ks : List Int} (h : ∀ k ∈ ks, 0 ≤ k ∧ k ≤ 255) {y : Int} (hy : 0 ≤ y ∧ y ≤ 255) : ∀ k ∈ ks ++ [y], 0 ≤ k ∧ k ≤ 255 := fun k hk => (List.mem_append.1 hk).elim (h k) (fun hk => List.mem_singleton.1 hk ▸ hy)
theorem ins_snoc {is : List GIns} (h : ∀ i ∈ is, i.Wf) {y : GIns} (hy : y.Wf) : ∀ i ∈ is ++ [y], i.Wf := fun k hk => (List.mem_append.1 hk).elim (h k) (fun hk => List.mem_singleton.1 hk ▸ hy)
def BlkPost (w : World) (r : Nat) (vb : Value) (l : List Int) (p : Option (Int × List Int)) (e : Ending) (w' : World) : Prop :=
  (∃ y : Int, e = .returned (.int .u64 y) ∧ 0 ≤ y ∧ y ≤ 255 ∧ ∀ x rest, p = some (x, rest) → y = x) ∧ RdAt w' r vb l (p.map (·.2)) ∧ w.grownBy w' (some r)
theorem blk_any (w : World) (r : Nat) (vb : Value) (l : List Int) (hb : Bys l) (o : Option (List Int)) (h : RdAt w r vb l o) :
    Calls Try.prog 59 #[.pointer (some ⟨r, 0, none⟩), .int .u64 255] w (BlkPost w r vb l (o.bind blkP)) := by
  refine (number_any w r vb l hb o h 255).mono ?_
  rintro e w' ⟨rfl, h1, h2⟩
  have hl := num_le (most := 255) (o := o) rfl
  have e1 : (o.bind blkP).map (·.2) = (o.bind (numP 255)).map (·.2) := by
    cases o with
    | none => rfl
    | some rest =>
      simp only [Option.bind_some, blkP]
      cases numP 255 rest with
      | none => rfl
      | some q => rfl
  refine ⟨⟨_, rfl, by omega, by omega, fun x rest hx => ?_⟩, by rw [e1]; exact h1, h2⟩
  cases o with
  | none => cases hx
  | some rest' =>
    simp only [Option.bind_some, blkP] at hx ⊢
    cases hn : numP 255 rest' with
    | none => rw [hn] at hx; cases hx
    | some q =>
      rw [hn] at hx
      cases hx
      rfl
structure VarsOk (xs : List GVar) : Prop where
  wf : ∀ x ∈ xs, x.Wf
  nm : ∀ x ∈ xs, x.name.size ≤ 40
theorem VarsOk.snoc {xs : List GVar} (h : VarsOk xs) {y : GVar} (h1 : y.Wf) (h2 : y.name.size ≤ 40) : VarsOk (xs ++ [y]) :=
  ⟨fun x hx => (List.mem_append.1 hx).elim (h.wf x) (fun hx => List.mem_singleton.1 hx ▸ h1), fun x hx => (List.mem_append.1 hx).elim (h.nm x) (fun hx => List.mem_singleton.1 hx ▸ h2)⟩
set_option maxHeartbeats 8000000 in
set_option maxRecDepth 100000 in
theorem read_any (w : World) (v : Value) (l : List Int) (h : Rd oneU8 1 w v l) (hb : Bys l) :
    Calls Try.prog 30 #[v] w (ReadPost w l) := by
  obtain ⟨P1, N1, V, N2, B, N3, I, e1, e2, e3, e4, e5, e6, e7, eo, ec⟩ := code_steps l
  have L1 := num_le e2
  have L2 := num_le e4
  have L3 := num_le e6
  have T1 := fun (W : World) (r : Nat) (hW : RdAt W r v l (some l)) => text_any W r v l hb _ hW
  have T2 := fun (W : World) (r : Nat) (hW : RdAt W r v l (P1.map (·.2))) => number_any W r v l hb _ hW 200
  have T4 := fun (W : World) (r : Nat) (hW : RdAt W r v l (V.map (·.2))) => number_any W r v l hb _ hW 100
  have T6 := fun (W : World) (r : Nat) (hW : RdAt W r v l (B.map (·.2))) => number_any W r v l hb _ hW 2000
  rw [← e1] at T1
  rw [← e2] at T2
  rw [← e4] at T4
  rw [← e6] at T6
  unfold TextPost at T1
  unfold NumPost at T2 T4 T6
  obtain ⟨nm, hnm⟩ : ∃ nm, (P1.map (·.1)).getD ⟨#[]⟩ = nm := ⟨_, rfl⟩
  obtain ⟨n1, hn1⟩ : ∃ n, (N1.map (·.1)).getD 0 = n := ⟨_, rfl⟩
  obtain ⟨n2, hn2⟩ : ∃ n, (N2.map (·.1)).getD 0 = n := ⟨_, rfl⟩
  obtain ⟨n3, hn3⟩ : ∃ n, (N3.map (·.1)).getD 0 = n := ⟨_, rfl⟩
  have g1 : ∀ a r, P1 = some (a, r) → nm = a := fun a r h => by rw [← hnm, h]; rfl
  rw [hnm] at T1
  rw [hn1] at T2 L1 e3
  rw [hn2] at T4 L2 e5
  rw [hn3] at T6 L3 e7
  have c200 : ((200 : Nat) : Int) = 200 := rfl
  have c100 : ((100 : Nat) : Int) = 100 := rfl
  have c2000 : ((2000 : Nat) : Int) = 2000 := rfl
  rw [c200] at T2
  rw [c100] at T4
  rw [c2000] at T6
  have K1 := Fact.mk T1
  have K2 := Fact.mk T2
  have K4 := Fact.mk T4
  have K6 := Fact.mk T6
  have KV := Fact.mk (fun (W : World) (r : Nat) (o : Option (List Int)) (hW : RdAt W r v l o) => variable_any W r v l hb o hW)
  have KI := Fact.mk (fun (W : World) (r : Nat) (o : Option (List Int)) (hW : RdAt W r v l o) => rdIns_any W r v l hb o hW)
  have KB := Fact.mk (fun (W : World) (r : Nat) (o : Option (List Int)) (hW : RdAt W r v l o) => blk_any W r v l hb o hW)
  have EV := Fact.mk e3
  have EB := Fact.mk e5
  have EI := Fact.mk e7
  have EO := Fact.mk eo
  have EC := Fact.mk (ec nm)
  have G1 := Fact.mk g1
  have hvb : 0 < l.length → ∀ b, v.ownBlock = some b → b < w.heap.size := by
    intro hp b hbk
    obtain ⟨_, A, c, rfl, _, _, hc⟩ := h
    obtain ⟨b', off, rfl, hc2⟩ := hc hp
    cases hbk
    exact World.block_lt_of_cell? w _ (hc2 0 hp 0 _ rfl)
  have H := Fact.mk h
  have HVB := Fact.mk hvb
  obtain ⟨A0, q0, c0, rfl⟩ := rdr_slice h
  clear e1 e2 e3 e4 e5 e6 e7 eo ec T1 T2 T4 T6 hnm hn1 hn2 hn3 g1 h hvb c200 c100 c2000
  go_enter Try.func30, Try.ntmps30
  go_wp2_with fail
  have R0 : RdAt ((w.alloc (.cells #[.string ⟨#[]⟩, .slice none 0 0, .slice none 0 0, .slice none 0 0] 32)).alloc (.cells #[.slice A0 q0 c0, .int .i64 0, .bool false] 105)) (w.heap.size + 1) (.slice A0 q0 c0) l (some l) :=
    ⟨H.out.below (two_blocks w _ _).1, 0, false, Nat.zero_le _, (two_blocks w _ _).2.2.1, rfl, rfl⟩
  refine (K1.out _ _ R0).mono ?_
  rintro e W1 ⟨rfl, h1, g1⟩
  have X1 := Fact.mk (grown_row g1 (two_blocks w _ _).2.1 (by omega))
  have B1 := Fact.mk ((two_blocks w _ _).1.grown g1 (two_blocks w _ _).1.size (fun k hk => by cases hk; omega))
  have H1 := Fact.mk h1
  have z1 : w.heap.size + 1 < W1.heap.size := by have := g1.size; rw [(two_blocks w _ _).2.2.2] at this; omega
  clear h1 g1 R0 K1
  obtain ⟨r, hr⟩ : ∃ r, w.heap.size + 1 = r := ⟨_, rfl⟩
  rw [hr] at H1 z1 ⊢
  have hwr : w.heap.size < r := by omega
  clear hr
  go_wp2_with fail
  refine (K2.out _ r (H1.out.below (one_block W1 _).1)).mono ?_
  rintro e W2 ⟨rfl, h2, g2⟩
  have ST : ReadSt w W2 r W1.heap.size (.slice A0 q0 c0) l (N1.map (·.2)) nm (.slice none 0 0) (.slice none 0 0) (.slice none 0 0) [] [] [] :=
    ⟨h2, grown_row g2 (((one_block W1 _).1.block _ (Array.getElem?_eq_some_iff.1 X1.out).1).trans X1.out) (by omega), grown_row g2 (heap_alloc_new W1 _) (by omega), Own.nil _ _ _ _ _, Own.nil _ _ _ _ _, Own.nil _ _ _ _ _, (B1.out.alloc B1.out.size _).grown g2 (Nat.le_trans B1.out.size (by simp)) (fun k hk => by cases hk; omega), hwr, z1, HVB.out⟩
  have S1 := Fact.mk ST
  obtain ⟨C, hC⟩ : ∃ C, W1.heap.size = C := ⟨_, rfl⟩
  rw [hC] at S1 ⊢
  clear ST h2 g2 H1 X1 B1 K2 hC z1 hwr
  go_upto_block 0 with (fail)
  go_cut [] (fun wx => ∃ (vv : Value) (xs : List GVar), Fact (ReadSt w wx r C (.slice A0 q0 c0) l (V.map (·.2)) nm vv (.slice none 0 0) (.slice none 0 0) xs [] [] ∧ (∀ a q, V = some (a, q) → xs = a) ∧ VarsOk xs ∧ xs.length ≤ 200))
  case first =>
    go_wp2_with fail
    go_loopw [6] (fun s wr => ∃ (k : Nat) (o : Option (List Int)) (vv : Value) (xs : List GVar), s = .int .u64 k ∧ Fact (ReadSt w wr r C (.slice A0 q0 c0) l o nm vv (.slice none 0 0) (.slice none 0 0) xs [] [] ∧ Prog V varP k xs o ∧ xs.length + k ≤ 200 ∧ VarsOk xs)) (fun s _ => (intOf s).toNat)
    case atStart => exact ⟨n1, _, _, [], rfl, ⟨S1.out, by rw [EV.out]; exact prog_start, by simpa using L1, ⟨fun _ h => absurd h (by simp), fun _ h => absurd h (by simp)⟩⟩⟩
    case round =>
      obtain ⟨k, o, vv, xs, rfl, hst⟩ := hrel
      have hkk := hst.out.2.2.1
      have cb := hst.out.1.cells
      cases o with
      | none =>
        have HE := Fact.mk (prog_end hst.out.2.1 (.inr rfl))
        by_cases hk : 0 < k
        · have e1 : (0 : Int) < (k : Int) := by omega
          go_wp2_with fail
          go_meet
          exact ⟨vv, xs, ⟨by rw [HE.out.1]; exact hst.out.1, HE.out.2, hst.out.2.2.2, by omega⟩⟩
        · have e1 : ¬ (0 : Int) < (k : Int) := by omega
          have e2 : k = 0 := by omega
          go_wp2_with fail
          go_meet
          exact ⟨vv, xs, ⟨by rw [HE.out.1]; exact hst.out.1, HE.out.2, hst.out.2.2.2, by omega⟩⟩
      | some rest =>
        by_cases hk : 0 < k
        · have e1 : (0 : Int) < (k : Int) := by omega
          go_wp2_with fail
          obtain ⟨i0, hi, hz0, hz1, hz2⟩ := varInfo
          have HS := Fact.mk hst.out.1
          have HP := Fact.mk hst.out.2.1
          have HV := Fact.mk hst.out.2.2.2
          have hrC := HS.out.rC
          have KA : Fact (∀ W' : World, W'.heap[C]? = some (.cells #[.string nm, vv, (.slice none 0 0), (.slice none 0 0)] 32 (0, 0)) → W'.cell? ⟨C, 1, none⟩ = some vv ∧ W'.frozen? ⟨C, 1, none⟩ = false) := ⟨fun W' hW => ⟨by rw [cell_of_row _ _ 1 _ _ _ hW]; rfl, frozen_of_row _ _ 1 _ _ hW⟩⟩
          have KVD := Fact.mk (KV.out wr.drew r _ (HS.out.rd.below (Below.refl _ _).drew))
          have RW := Fact.mk HS.out.row
          clear hst cb
          obtain ⟨c0', f0'⟩ := KA.out _ RW.out
          go_region_law (first | (refine step_append_lies _ (by rfl) _ _ 28 (by rfl) (C + 1) 41 i0 (.agg #[.string ⟨#[]⟩, .int .u8 0, .int .u8 0, .int .i64 0]) 4 32 Try.underlying28 hi hz0 hz1 hz2 (by rfl) (by decide) vv xs.length (xs.flatMap encVar) (by rfl) (World.ownsRow.alloc ST6.out.oV _) ⟨W6.heap.size, 0, none⟩ 1 1 (encVar y) (by rfl) (by rfl) (World.news_of_block (cs := (encVar y).toArray) (t := 41) (fr := (0, 0)) (heap_alloc_new W6 _)) (var_one y) (by decide) (by simp only [maxLen]; omega) (by omega) (by have := (Array.getElem?_eq_some_iff.1 RW6.out).1; simp; omega) (W6.heap.size + 1) (by simp) ?_; intro gg cap w1 hown1 hgrow hat hlt; have RW7 : Fact (w1.heap[C]? = some (.cells #[.string nm, vv, (.slice none 0 0), (.slice none 0 0)] 32 (0, 0))) := ⟨(hgrow.block C (by simp; omega) (fun e => ho_C ST6.out.oV e.symm)).trans (((one_block W6 _).1.block C l6).trans RW6.out)⟩; obtain ⟨c7, f7⟩ := KA.out _ RW7.out; have OW := Fact.mk hown1; have GR := Fact.mk hgrow; clear hown1 hgrow) | (go_simp; go_at_call 60; (with_reducible refine KVD.out.mono ?_); rintro e W6 ⟨⟨y, rfl, hwf, hny, hy⟩, h6, g6⟩; unfold vVar; have RW6 : Fact (W6.heap[C]? = some (.cells #[.string nm, vv, (.slice none 0 0), (.slice none 0 0)] 32 (0, 0))) := ⟨grown_row g6 RW.out (by omega)⟩; have ST6 := Fact.mk ((HS.out.below (Below.refl _ _).drew).read h6 g6); have HY := Fact.mk hy; have WY := Fact.mk (And.intro hwf hny); have l6 : C < W6.heap.size := (Array.getElem?_eq_some_iff.1 RW6.out).1; obtain ⟨c6, f6⟩ := KA.out _ RW6.out; clear h6 g6 hy hwf hny))
          all_goals
            have HPk : Fact (Prog V varP (k - 1 + 1) xs (some rest)) := ⟨by rw [show k - 1 + 1 = k by omega]; exact HP.out⟩
            have STN := Fact.mk (ST6.out.grewV y OW.out GR.out)
            have HPN := Fact.mk (prog_step HPk.out HY.out)
            clear HP HPk c7 f7 c6 f6 OW GR c0' f0' RW RW6 RW7 KVD KA ST6 HS
            have hk1 : (k : Int) - 1 = ((k - 1 : Nat) : Int) := by omega
            go_wp2_with fail
            go_roundw
            case rel => exact ⟨k - 1, _, _, _, rfl, ⟨STN.out, HPN.out, by rw [List.length_append]; simp only [List.length_cons, List.length_nil]; omega, (HV.out.snoc WY.out.1 WY.out.2)⟩⟩
            case measure => simp [intOf]; omega
        · have e1 : ¬ (0 : Int) < (k : Int) := by omega
          have e2 : k = 0 := by omega
          have HE := Fact.mk (prog_end hst.out.2.1 (.inl e2))
          go_wp2_with fail
          go_meet
          exact ⟨vv, xs, ⟨by rw [HE.out.1]; exact hst.out.1, HE.out.2, hst.out.2.2.2, by omega⟩⟩
  case rest =>
    obtain ⟨vV, xs, hc⟩ := hcut
    have SV := Fact.mk hc.out.1
    have XV := Fact.mk hc.out.2.1
    have OV := Fact.mk hc.out.2.2.1
    clear S1
    go_wp2_with fail
    refine (K4.out _ r SV.out.rd).mono ?_
    rintro e W4 ⟨rfl, h4, g4⟩
    have S1 := Fact.mk (SV.out.read h4 g4)
    clear h4 g4 SV K4
    go_upto_block 2 with (fail)
    go_cut [] (fun wx => ∃ (vv : Value) (ks : List Int), Fact (ReadSt w wx r C (.slice A0 q0 c0) l (B.map (·.2)) nm vV vv (.slice none 0 0) xs ks [] ∧ (∀ a q, B = some (a, q) → ks = a) ∧ (∀ k ∈ ks, 0 ≤ k ∧ k ≤ 255) ∧ ks.length ≤ 100))
    case first =>
      go_wp2_with fail
      go_loopw [7] (fun s wr => ∃ (k : Nat) (o : Option (List Int)) (vv : Value) (ks : List Int), s = .int .u64 k ∧ Fact (ReadSt w wr r C (.slice A0 q0 c0) l o nm vV vv (.slice none 0 0) xs ks [] ∧ Prog B blkP k ks o ∧ ks.length + k ≤ 100 ∧ (∀ k ∈ ks, 0 ≤ k ∧ k ≤ 255))) (fun s _ => (intOf s).toNat)
      case atStart => exact ⟨n2, _, _, [], rfl, ⟨S1.out, by rw [EB.out]; exact prog_start, by simpa using L2, fun _ h => absurd h (by simp)⟩⟩
      case round =>
        obtain ⟨k, o, vv, ks, rfl, hst⟩ := hrel
        have hkk := hst.out.2.2.1
        have cb := hst.out.1.cells
        cases o with
        | none =>
          have HE := Fact.mk (prog_end hst.out.2.1 (.inr rfl))
          by_cases hk : 0 < k
          · have e1 : (0 : Int) < (k : Int) := by omega
            go_wp2_with fail
            go_meet
            exact ⟨vv, ks, ⟨by rw [HE.out.1]; exact hst.out.1, HE.out.2, hst.out.2.2.2, by omega⟩⟩
          · have e1 : ¬ (0 : Int) < (k : Int) := by omega
            have e2 : k = 0 := by omega
            go_wp2_with fail
            go_meet
            exact ⟨vv, ks, ⟨by rw [HE.out.1]; exact hst.out.1, HE.out.2, hst.out.2.2.2, by omega⟩⟩
        | some rest =>
          by_cases hk : 0 < k
          · have e1 : (0 : Int) < (k : Int) := by omega
            go_wp2_with fail
            obtain ⟨i0, hi, hz0, hz1, hz2⟩ := kindInfo
            have HS := Fact.mk hst.out.1
            have HP := Fact.mk hst.out.2.1
            have HV := Fact.mk hst.out.2.2.2
            have hrC := HS.out.rC
            have KA : Fact (∀ W' : World, W'.heap[C]? = some (.cells #[.string nm, vV, vv, (.slice none 0 0)] 32 (0, 0)) → W'.cell? ⟨C, 2, none⟩ = some vv ∧ W'.frozen? ⟨C, 2, none⟩ = false) := ⟨fun W' hW => ⟨by rw [cell_of_row _ _ 2 _ _ _ hW]; rfl, frozen_of_row _ _ 2 _ _ hW⟩⟩
            have KVD := Fact.mk (KB.out wr.drew r _ (HS.out.rd.below (Below.refl _ _).drew))
            have RW := Fact.mk HS.out.row
            clear hst cb
            obtain ⟨c0', f0'⟩ := KA.out _ RW.out
            go_region_law (first | (refine step_append_lies _ (by rfl) _ _ 29 (by rfl) (C + 1) 42 i0 (.int .u8 0) 1 1 Try.underlying29 hi hz0 hz1 hz2 (by rfl) (by decide) vv ks.length (ks.flatMap oneU8) (by rfl) (World.ownsRow.alloc ST6.out.oB _) ⟨W6.heap.size, 0, none⟩ 1 1 (oneU8 y) (by rfl) (by rfl) (World.news_of_block (cs := (oneU8 y).toArray) (t := 42) (fr := (0, 0)) (heap_alloc_new W6 _)) (kind_one y) (by decide) (by simp only [maxLen]; omega) (by omega) (by have := (Array.getElem?_eq_some_iff.1 RW6.out).1; simp; omega) (W6.heap.size + 1) (by simp) ?_; intro gg cap w1 hown1 hgrow hat hlt; have RW7 : Fact (w1.heap[C]? = some (.cells #[.string nm, vV, vv, (.slice none 0 0)] 32 (0, 0))) := ⟨(hgrow.block C (by simp; omega) (fun e => ho_C ST6.out.oB e.symm)).trans (((one_block W6 _).1.block C l6).trans RW6.out)⟩; obtain ⟨c7, f7⟩ := KA.out _ RW7.out; have OW := Fact.mk hown1; have GR := Fact.mk hgrow; clear hown1 hgrow) | (go_simp; go_at_call 59; (with_reducible refine KVD.out.mono ?_); rintro e W6 ⟨⟨y, rfl, hy0, hy1, hy⟩, h6, g6⟩; have hcv : IntKind.u8.wrap y = y := (by rw [IntKind.wrap_u8]; omega); have RW6 : Fact (W6.heap[C]? = some (.cells #[.string nm, vV, vv, (.slice none 0 0)] 32 (0, 0))) := ⟨grown_row g6 RW.out (by omega)⟩; have ST6 := Fact.mk ((HS.out.below (Below.refl _ _).drew).read h6 g6); have HY := Fact.mk hy; have WY := Fact.mk (And.intro hy0 hy1); have l6 : C < W6.heap.size := (Array.getElem?_eq_some_iff.1 RW6.out).1; obtain ⟨c6, f6⟩ := KA.out _ RW6.out; clear h6 g6 hy ))
            all_goals
              have HPk : Fact (Prog B blkP (k - 1 + 1) ks (some rest)) := ⟨by rw [show k - 1 + 1 = k by omega]; exact HP.out⟩
              have STN := Fact.mk (ST6.out.grewB y OW.out GR.out)
              have HPN := Fact.mk (prog_step HPk.out HY.out)
              clear HP HPk c7 f7 c6 f6 OW GR c0' f0' RW RW6 RW7 KVD KA ST6 HS
              have hk1 : (k : Int) - 1 = ((k - 1 : Nat) : Int) := by omega
              go_wp2_with fail
              go_roundw
              case rel => exact ⟨k - 1, _, _, _, rfl, ⟨STN.out, HPN.out, by rw [List.length_append]; simp only [List.length_cons, List.length_nil]; omega, (kinds_snoc HV.out WY.out)⟩⟩
              case measure => simp [intOf]; omega
          · have e1 : ¬ (0 : Int) < (k : Int) := by omega
            have e2 : k = 0 := by omega
            have HE := Fact.mk (prog_end hst.out.2.1 (.inl e2))
            go_wp2_with fail
            go_meet
            exact ⟨vv, ks, ⟨by rw [HE.out.1]; exact hst.out.1, HE.out.2, hst.out.2.2.2, by omega⟩⟩
    case rest =>
      obtain ⟨vB, ks, hc⟩ := hcut
      have SB := Fact.mk hc.out.1
      have XB := Fact.mk hc.out.2.1
      have OB := Fact.mk hc.out.2.2.1
      clear S1
      go_wp2_with fail
      refine (K6.out _ r SB.out.rd).mono ?_
      rintro e W5 ⟨rfl, h5, g5⟩
      have S1 := Fact.mk (SB.out.read h5 g5)
      clear h5 g5 SB K6
      go_upto_block 4 with (fail)
      go_cut [] (fun wx => ∃ (vv : Value) (is : List GIns), Fact (ReadSt w wx r C (.slice A0 q0 c0) l (I.map (·.2)) nm vV vB vv xs ks is ∧ (∀ a q, I = some (a, q) → is = a) ∧ (∀ i ∈ is, i.Wf) ∧ is.length ≤ 2000))
      case first =>
        go_wp2_with fail
        go_loopw [8] (fun s wr => ∃ (k : Nat) (o : Option (List Int)) (vv : Value) (is : List GIns), s = .int .u64 k ∧ Fact (ReadSt w wr r C (.slice A0 q0 c0) l o nm vV vB vv xs ks is ∧ Prog I insP k is o ∧ is.length + k ≤ 2000 ∧ (∀ i ∈ is, i.Wf))) (fun s _ => (intOf s).toNat)
        case atStart => exact ⟨n3, _, _, [], rfl, ⟨S1.out, by rw [EI.out]; exact prog_start, by simpa using L3, fun _ h => absurd h (by simp)⟩⟩
        case round =>
          obtain ⟨k, o, vv, is, rfl, hst⟩ := hrel
          have hkk := hst.out.2.2.1
          have cb := hst.out.1.cells
          cases o with
          | none =>
            have HE := Fact.mk (prog_end hst.out.2.1 (.inr rfl))
            by_cases hk : 0 < k
            · have e1 : (0 : Int) < (k : Int) := by omega
              go_wp2_with fail
              go_meet
              exact ⟨vv, is, ⟨by rw [HE.out.1]; exact hst.out.1, HE.out.2, hst.out.2.2.2, by omega⟩⟩
            · have e1 : ¬ (0 : Int) < (k : Int) := by omega
              have e2 : k = 0 := by omega
              go_wp2_with fail
              go_meet
              exact ⟨vv, is, ⟨by rw [HE.out.1]; exact hst.out.1, HE.out.2, hst.out.2.2.2, by omega⟩⟩
          | some rest =>
            by_cases hk : 0 < k
            · have e1 : (0 : Int) < (k : Int) := by omega
              go_wp2_with fail
              obtain ⟨i0, hi, hz0, hz1, hz2⟩ := insInfoR
              have HS := Fact.mk hst.out.1
              have HP := Fact.mk hst.out.2.1
              have HV := Fact.mk hst.out.2.2.2
              have hrC := HS.out.rC
              have KA : Fact (∀ W' : World, W'.heap[C]? = some (.cells #[.string nm, vV, vB, vv] 32 (0, 0)) → W'.cell? ⟨C, 3, none⟩ = some vv ∧ W'.frozen? ⟨C, 3, none⟩ = false) := ⟨fun W' hW => ⟨by rw [cell_of_row _ _ 3 _ _ _ hW]; rfl, frozen_of_row _ _ 3 _ _ hW⟩⟩
              have KVD := Fact.mk (KI.out wr.drew r _ (HS.out.rd.below (Below.refl _ _).drew))
              have RW := Fact.mk HS.out.row
              clear hst cb
              obtain ⟨c0', f0'⟩ := KA.out _ RW.out
              go_region_law (first | (refine step_append_lies _ (by rfl) _ _ 30 (by rfl) (C + 1) 38 i0 (.agg #[.int .u8 0, .int .u8 0, .int .i64 0, .int .i64 0]) 4 24 Try.underlying30 hi hz0 hz1 hz2 (by rfl) (by decide) vv is.length (is.flatMap encIns) (by rfl) (World.ownsRow.alloc ST6.out.oI _) ⟨W6.heap.size, 0, none⟩ 1 1 (encIns y) (by rfl) (by rfl) (World.news_of_block (cs := (encIns y).toArray) (t := 38) (fr := (0, 0)) (heap_alloc_new W6 _)) (ins_oneR y) (by decide) (by simp only [maxLen]; omega) (by omega) (by have := (Array.getElem?_eq_some_iff.1 RW6.out).1; simp; omega) (W6.heap.size + 1) (by simp) ?_; intro gg cap w1 hown1 hgrow hat hlt; have RW7 : Fact (w1.heap[C]? = some (.cells #[.string nm, vV, vB, vv] 32 (0, 0))) := ⟨(hgrow.block C (by simp; omega) (fun e => ho_C ST6.out.oI e.symm)).trans (((one_block W6 _).1.block C l6).trans RW6.out)⟩; obtain ⟨c7, f7⟩ := KA.out _ RW7.out; have OW := Fact.mk hown1; have GR := Fact.mk hgrow; clear hown1 hgrow) | (go_simp; go_at_call 61; (with_reducible refine KVD.out.mono ?_); rintro e W6 ⟨⟨y, rfl, hwf, hy⟩, h6, g6⟩; unfold vIns; have RW6 : Fact (W6.heap[C]? = some (.cells #[.string nm, vV, vB, vv] 32 (0, 0))) := ⟨grown_row g6 RW.out (by omega)⟩; have ST6 := Fact.mk ((HS.out.below (Below.refl _ _).drew).read h6 g6); have HY := Fact.mk hy; have WY := Fact.mk hwf; have l6 : C < W6.heap.size := (Array.getElem?_eq_some_iff.1 RW6.out).1; obtain ⟨c6, f6⟩ := KA.out _ RW6.out; clear h6 g6 hy hwf))
              all_goals
                have HPk : Fact (Prog I insP (k - 1 + 1) is (some rest)) := ⟨by rw [show k - 1 + 1 = k by omega]; exact HP.out⟩
                have STN := Fact.mk (ST6.out.grewI y OW.out GR.out)
                have HPN := Fact.mk (prog_step HPk.out HY.out)
                clear HP HPk c7 f7 c6 f6 OW GR c0' f0' RW RW6 RW7 KVD KA ST6 HS
                have hk1 : (k : Int) - 1 = ((k - 1 : Nat) : Int) := by omega
                go_wp2_with fail
                go_roundw
                case rel => exact ⟨k - 1, _, _, _, rfl, ⟨STN.out, HPN.out, by rw [List.length_append]; simp only [List.length_cons, List.length_nil]; omega, (ins_snoc HV.out WY.out)⟩⟩
                case measure => simp [intOf]; omega
            · have e1 : ¬ (0 : Int) < (k : Int) := by omega
              have e2 : k = 0 := by omega
              have HE := Fact.mk (prog_end hst.out.2.1 (.inl e2))
              go_wp2_with fail
              go_meet
              exact ⟨vv, is, ⟨by rw [HE.out.1]; exact hst.out.1, HE.out.2, hst.out.2.2.2, by omega⟩⟩
      case rest =>
        obtain ⟨vI, is, hc⟩ := hcut
        have SI := Fact.mk hc.out.1
        have XI := Fact.mk hc.out.2.1
        have OI := Fact.mk hc.out.2.2.1
        have NI := Fact.mk hc.out.2.2.2
        clear S1
        obtain ⟨AV, cV, rfl⟩ := SI.out.oV.slice2
        obtain ⟨AB, cB, rfl⟩ := SI.out.oB.slice2
        obtain ⟨AI, cI, rfl⟩ := SI.out.oI.slice2
        have hq : l.length = q0 := by
          obtain ⟨_, A, c, e, _⟩ := H.out
          injection e with _ e2 _
          exact e2.symm
        have hq9 : q0 ≤ 9223372036854775807 := by have := H.out.1; omega
        obtain ⟨⟨k0, k1, k2, k3⟩, -⟩ := rdv_row4 SI.out.row
        obtain ⟨⟨x0, x1, x2, x3⟩, f0, f1, f2, f3⟩ := rdv_row4 SI.out.res
        have lC := (Array.getElem?_eq_some_iff.1 SI.out.row).1
        have lX := (Array.getElem?_eq_some_iff.1 SI.out.res).1
        have ZX := Fact.mk (store4 SI.out.res (.string ⟨#[]⟩) (.slice none 0 0) (.slice none 0 0) (.slice none 0 0))
        have ZB := Fact.mk ((((SI.out.bel.setCell (p := ⟨w.heap.size, 0, none⟩) (Nat.le_refl _) (.string ⟨#[]⟩)).setCell (p := ⟨w.heap.size, 1, none⟩) (Nat.le_refl _) (.slice none 0 0)).setCell (p := ⟨w.heap.size, 2, none⟩) (Nat.le_refl _) (.slice none 0 0)).setCell (p := ⟨w.heap.size, 3, none⟩) (Nat.le_refl _) (.slice none 0 0))
        obtain ⟨o, ho⟩ : ∃ o, I.map (·.2) = o := ⟨_, rfl⟩
        rw [ho] at EO SI
        have cb := SI.out.cells
        have HQ := Fact.mk hq
        cases o with
        | none =>
          have HN : Fact (readB l = none) := ⟨by
            have := EO.out
            unfold readB
            cases hc : codeP l with
            | none => rfl
            | some q => rw [hc] at this; cases this⟩
          clear ho hq k0 k1 k2 k3
          go_wp2
          exact bodyPost_ret (res_cell_tmpR Try.results30 _ _ w.heap.size rfl ZX.out Try.underlying32 rfl Try.sizeCodeR) rfl (read_no ZB.out HN.out)
        | some rest =>
          obtain ⟨_, at_, bad, ha, hr, hbd, hdr⟩ := SI.out.rd
          obtain ⟨-, c1, -⟩ := (row3 hr).1
          have HC : Fact (codeP l = some (⟨nm, xs, ks, is⟩, rest)) := ⟨by
            have := EO.out
            cases hc : codeP l with
            | none => rw [hc] at this; cases this
            | some q =>
              obtain ⟨d, r'⟩ := q
              rw [hc] at this
              injection this with this
              have e := EC.out xs ks is G1.out XV.out XB.out XI.out d r' hc
              rw [e]
              exact congrArg some (congrArg (Prod.mk _) this)⟩
          have hlen : rest.length + at_ = l.length := by rw [← hdr, List.length_drop]; omega
          have HLEN := Fact.mk hlen
          by_cases h0 : rest = []
          · subst h0
            have e1 : ((at_ : Int) != (q0 : Int)) = false := by
              have : at_ = q0 := by rw [← hq, ← hlen]; simp
              rw [this]; exact bne_self_eq_false _
            have RG := Fact.mk (right_any ⟨nm, xs, ks, is⟩ ⟨OV.out.wf, OB.out, OI.out⟩ (by show (is.length : Int) < _; have := NI.out; omega) (.slice AV xs.length cV) (.slice AB ks.length cB) (.slice AI is.length cI) wc ⟨SI.out.oV.rd encVar_len, SI.out.oB.rd oneU8_len, SI.out.oI.rd encIns_len⟩)
            clear ho hq hr hbd hdr hlen
            go_wp2_with fail
            refine RG.out.mono ?_
            rintro e W8 ⟨rfl, hb8⟩
            have S8 := Fact.mk (SI.out.below hb8)
            clear hb8 RG k0 k1 k2 k3 x0 x1 x2 x3 f0 f1 f2 f3 cb c1 ZX ZB
            obtain ⟨⟨k0, k1, k2, k3⟩, -⟩ := rdv_row4 S8.out.row
            obtain ⟨⟨x0, x1, x2, x3⟩, f0, f1, f2, f3⟩ := rdv_row4 S8.out.res
            cases hR : rightB ⟨nm, xs, ks, is⟩ with
            | false =>
              have HN : Fact (readB l = none) := ⟨by unfold readB; rw [HC.out]; simp [hR]⟩
              have ZX := Fact.mk (store4 S8.out.res (.string ⟨#[]⟩) (.slice none 0 0) (.slice none 0 0) (.slice none 0 0))
              have ZB := Fact.mk ((((S8.out.bel.setCell (p := ⟨w.heap.size, 0, none⟩) (Nat.le_refl _) (.string ⟨#[]⟩)).setCell (p := ⟨w.heap.size, 1, none⟩) (Nat.le_refl _) (.slice none 0 0)).setCell (p := ⟨w.heap.size, 2, none⟩) (Nat.le_refl _) (.slice none 0 0)).setCell (p := ⟨w.heap.size, 3, none⟩) (Nat.le_refl _) (.slice none 0 0))
              clear hR
              go_wp2
              exact bodyPost_ret (res_cell_tmpR Try.results30 _ _ w.heap.size rfl ZX.out Try.underlying32 rfl Try.sizeCodeR) rfl (read_no ZB.out HN.out)
            | true =>
              have HN : Fact (readB l = some ⟨nm, xs, ks, is⟩) := ⟨by unfold readB; rw [HC.out]; simp [hR]⟩
              have ZX := Fact.mk (store4 S8.out.res (.string nm) (.slice AV xs.length cV) (.slice AB ks.length cB) (.slice AI is.length cI))
              have ZB := Fact.mk ((((S8.out.bel.setCell (p := ⟨w.heap.size, 0, none⟩) (Nat.le_refl _) (.string nm)).setCell (p := ⟨w.heap.size, 1, none⟩) (Nat.le_refl _) (.slice AV xs.length cV)).setCell (p := ⟨w.heap.size, 2, none⟩) (Nat.le_refl _) (.slice AB ks.length cB)).setCell (p := ⟨w.heap.size, 3, none⟩) (Nat.le_refl _) (.slice AI is.length cI))
              have s1 := S8.out.res
              have s2 := set4_0 (u := .string nm) s1
              have s3 := set4_1 (u := .slice AV xs.length cV) s2
              have s4 := set4_2 (u := .slice AB ks.length cB) s3
              have OX : Fact (CodeRd _ ⟨nm, xs, ks, is⟩ _ _ _) := ⟨⟨((((S8.out.oV.set s1 (by decide) 0 (.string nm)).set s2 (by decide) 1 (.slice AV xs.length cV)).set s3 (by decide) 2 (.slice AB ks.length cB)).set s4 (by decide) 3 (.slice AI is.length cI)).rd encVar_len, ((((S8.out.oB.set s1 (by decide) 0 (.string nm)).set s2 (by decide) 1 (.slice AV xs.length cV)).set s3 (by decide) 2 (.slice AB ks.length cB)).set s4 (by decide) 3 (.slice AI is.length cI)).rd oneU8_len, ((((S8.out.oI.set s1 (by decide) 0 (.string nm)).set s2 (by decide) 1 (.slice AV xs.length cV)).set s3 (by decide) 2 (.slice AB ks.length cB)).set s4 (by decide) 3 (.slice AI is.length cI)).rd encIns_len⟩⟩
              clear hR s1 s2 s3 s4
              go_wp2
              exact bodyPost_ret (res_cell_tmpR Try.results30 _ _ w.heap.size rfl ZX.out Try.underlying32 rfl Try.sizeCodeR) rfl (read_yes ZB.out HN.out OX.out)
          · have hpos : 0 < rest.length := List.length_pos_iff.2 h0
            have e1 : ((at_ : Int) != (q0 : Int)) = true := bne_iff_ne.2 (by omega)
            have HN : Fact (readB l = none) := ⟨by unfold readB; rw [HC.out]; simp [h0]⟩
            clear ho hq hr hbd hdr hlen h0 hpos k0 k1 k2 k3
            go_wp2
            exact bodyPost_ret (res_cell_tmpR Try.results30 _ _ w.heap.size rfl ZX.out Try.underlying32 rfl Try.sizeCodeR) rfl (read_no ZB.out HN.out)
end Go.Proofs.Ythiapebodpkamaa

