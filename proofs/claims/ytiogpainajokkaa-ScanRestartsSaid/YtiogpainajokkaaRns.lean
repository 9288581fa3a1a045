/- Contract of machine.runs: a block of the machine is run. -/
import Derived.Test.YtiogpainajokkaaMchM
import Derived.Test.YtiogpainajokkaaRns0
import Derived.Test.YtiogpainajokkaaRnR
import Derived.Test.YtiogpainajokkaaScP
import Derived.Test.YtiogpainajokkaaOutM
import Derived.Deep.CutBlock
namespace Go.Proofs.Ytiogpainajokkaa
open Go.RowKit
set_option maxHeartbeats 4000000 in
set_option maxRecDepth 100000 in
theorem runs_any (w0 w : World) (X : Nat) (c : GCode) (vs bs is : Value) (now : Int) (m : GMach) (V B S : Value) (h : MSt w0 w X c vs bs is now m V B S) (hl : m.st.length ≤ 900) (t n : Int) (k : Nat) (hk : k < m.s.blocks.length) (hkb : k < c.blocks.length) (b b' : GBlock) (hb0 : m.s.blocks.getD k (newB 0) = b) (s0 s1 : List Int) (hs : m.st = s0 ++ s1) (hp : s1.length = (pinsIn (c.blocks.getD k 0)).length) (h1 : 0 < s1.length) (hr : (runB b s1 now).1 = b') :
    Calls Try.prog 82 #[.pointer (some ⟨X, 0, none⟩), .agg #[.int .u8 20, .int .u8 t, .int .i64 (k : Int), .int .i64 n]] w (StPost1 w0 X c vs bs is now ⟨⟨m.s.vars, m.s.blocks.set k b'⟩, s0, m.at_, m.steps⟩ V B (.tuple #[])) := by
  obtain ⟨b1, r1, z1⟩ := one_block w (.cells #[.int .u8 20, .int .u8 t, .int .i64 (k : Int), .int .i64 n] 49)
  have MT := Fact.mk (h.below b1)
  have R1 := Fact.mk r1
  have L1 : w.heap.size < (w.alloc (.cells #[.int .u8 20, .int .u8 t, .int .i64 (k : Int), .int .i64 n] 49)).heap.size := by rw [z1]; omega
  have HS := Fact.mk (And.intro hs (And.intro hp h1))
  have HB := Fact.mk hb0
  have HR := Fact.mk hr
  clear h b1 r1 z1 hs hp h1 hb0 hr
  go_enter Try.func82, Try.ntmps82
  go_upto_region 1 with (fail)
  generalize w.alloc (.cells #[.int .u8 20, .int .u8 t, .int .i64 (k : Int), .int .i64 n] 49) = w2 at *
  have k2 : w2.cell? ⟨w.heap.size, 2, none⟩ = some (.int .i64 (k : Int)) := cell_of_row _ _ 2 _ _ _ R1.out
  obtain ⟨A2, c2, rfl⟩ : ∃ A c', bs = .slice A c.blocks.length c' := by obtain ⟨_, A, c', h, _⟩ := MT.out.old.blocks; exact ⟨A, c', h⟩
  obtain ⟨kd, hkd⟩ : ∃ kd, c.blocks.getD k 0 = kd := ⟨_, rfl⟩
  have hc2 : ∃ g off, A2 = some ⟨g, off, none⟩ ∧ w2.cell? ⟨g, off + k, none⟩ = some (.int .u8 kd) := by
    obtain ⟨_, A, c', e, _, _, h3⟩ := (MT.out.old.below MT.out.bel).blocks
    cases e
    obtain ⟨g, off, rfl, hc⟩ := h3 (by omega)
    refine ⟨g, off, rfl, ?_⟩
    have := hc k hkb 0 _ rfl
    rw [← hkd, List.getD_eq_getElem?_getD, List.getElem?_eq_getElem hkb]
    rwa [show off + k * 1 + 0 = off + k by omega] at this
  obtain ⟨gb, ob, rfl, cb⟩ := hc2
  rw [hkd] at HS
  have cc : w2.cell? ⟨X, 2, none⟩ = some (.slice (some ⟨gb, ob, none⟩) c.blocks.length c2) := cell_of_row _ _ 2 _ _ _ MT.out.row
  have hk2 : (k : Int) < (c.blocks.length : Int) := by omega
  have hk3 : (k : Int) < (m.s.blocks.length : Int) := by omega
  have lX := MT.out.lt
  clear hkd
  go_cut [4] (fun s4 wx => (∃ A1 c1, s4 = .slice A1 (pinsIn kd).length c1) ∧ Fact (Below w2.heap.size w2 wx))
  case first =>
    go_region_with (go_at_call 134; refine (pins_any _ _).mono ?_; rintro e W1 ⟨v1, v2, rfl, ho1, ho2, hb1⟩; obtain ⟨A1, c1, rfl⟩ := ho1.slice2; obtain ⟨A3, c3, rfl⟩ := ho2.slice2; have HB1 := Fact.mk ((Below.refl _ _).drew.trans hb1); clear ho1 ho2 hb1)
    all_goals
      go_wp2_with fail
      go_meet
      exact ⟨⟨_, _, rfl⟩, HB1⟩
  case rest =>
  obtain ⟨⟨A1, c1, rfl⟩, hb1⟩ := hcut
  have M3 := Fact.mk (MT.out.below hb1.out)
  have R3 := Fact.mk ((hb1.out.block w.heap.size L1).trans R1.out)
  have L3 : w.heap.size < wc.heap.size := Nat.lt_of_lt_of_le L1 hb1.out.size
  have lX3 := M3.out.lt
  have k2' : wc.cell? ⟨w.heap.size, 2, none⟩ = some (.int .i64 (k : Int)) := cell_below hb1.out _ _ k2
  obtain ⟨AS, qS, rfl⟩ := M3.out.oS.slice2
  have cS : wc.cell? ⟨X, 6, none⟩ = some (.slice AS m.st.length qS) := cell_of_row _ _ 6 _ _ _ M3.out.row
  have cN : wc.cell? ⟨X, 9, none⟩ = some (.int .i64 now) := cell_of_row _ _ 9 _ _ _ M3.out.row
  have hsl : m.st.length = s0.length + (pinsIn kd).length := by rw [HS.out.1, List.length_append, HS.out.2.1]
  have e1 : (m.st.length : Int) - ((pinsIn kd).length : Int) = (s0.length : Int) := by omega
  have HL := Fact.mk hsl
  clear hsl
  clear cc cb k2 lX
  go_wp2_with fail
  obtain ⟨g, q, cs, rfl, hg, hX, hc, hput⟩ := M3.out.putBlk k hk
  rw [HB.out] at hc
  have q0 : wc.cell? ⟨g, k * 10, none⟩ = some (.int .u8 b.kind) := hc 0 _ rfl
  have q1 : wc.cell? ⟨g, k * 10 + 1, none⟩ = some (.bool b.w0) := hc 1 _ rfl
  have q2 : wc.cell? ⟨g, k * 10 + 2, none⟩ = some (.bool b.w1) := hc 2 _ rfl
  have q3 : wc.cell? ⟨g, k * 10 + 3, none⟩ = some (.bool b.ran) := hc 3 _ rfl
  have q4 : wc.cell? ⟨g, k * 10 + 4, none⟩ = some (.bool b.going) := hc 4 _ rfl
  have q5 : wc.cell? ⟨g, k * 10 + 5, none⟩ = some (.int .i64 b.frm) := hc 5 _ rfl
  have q6 : wc.cell? ⟨g, k * 10 + 6, none⟩ = some (.int .i64 b.et) := hc 6 _ rfl
  have q7 : wc.cell? ⟨g, k * 10 + 7, none⟩ = some (.int .i64 b.cv) := hc 7 _ rfl
  have q8 : wc.cell? ⟨g, k * 10 + 8, none⟩ = some (.bool b.q) := hc 8 _ rfl
  have q9 : wc.cell? ⟨g, k * 10 + 9, none⟩ = some (.bool b.p) := hc 9 _ rfl
  have cB : wc.cell? ⟨X, 5, none⟩ = some (.slice (some ⟨g, 0, none⟩) m.s.blocks.length q) := cell_of_row _ _ 5 _ _ _ M3.out.row
  have lg : g < wc.heap.size := (Array.getElem?_eq_some_iff.1 hg).1
  have hT := fun W => run_tailI W AS m.st.length qS s0.length (by have := HL.out; omega)
  have RT : Fact (Rd oneI64 1 wc (tailS AS m.st.length qS s0.length) s1) := ⟨by
    have := (M3.out.oS.rd oneI64_len).tail64 s0.length (by have := HL.out; show s0.length ≤ m.st.length; omega)
    rw [show (m.st.drop s0.length) = s1 by rw [HS.out.1, List.drop_left' rfl]] at this
    exact this⟩
  have RUN : ∀ W, Below wc.heap.size wc W → Calls Try.prog 135 #[vBlk b, tailS AS m.st.length qS s0.length, .int .i64 now] W fun e w' => e = .returned (.tuple #[vBlk b', .int .i64 (runB b s1 now).2]) ∧ Below W.heap.size W w' :=
    fun W hW => HR.out ▸ run_any b s1 _ now W (RT.out.below hW)
  refine runs_region (X := X) (J := w.heap.size) (g := g) (k := k) (nb := m.s.blocks.length) (q := q) (n0 := s0.length) (now := now) (er := (runB b s1 now).2) (sv := .slice AS m.st.length qS) (tl := tailS AS m.st.length qS s0.length) (b := b) (b' := b') ⟨cB, k2', cS, cN, hc, ⟨cs, hg⟩, hk3, hT, RUN⟩ _ _ _ _ _ _ _ _ _ _ _ _ _ _ _ _ _ _ _ _ _ _ _ _ _ _ _ _ _ _ _ ?_
  intro u28 u29 u30 u31 u32 u33 u34 u35 u36 u37 u38 u39 u40 u41 u42 u43 u44 u45 u46 u47 u48 u49 u50 u51 u52 u53 u54 u55 u56 u57 u58 w6 hb6
  have M6 := M3.out.below hb6
  obtain ⟨g2, q2, cs2, hB2, -, -, -, hput2⟩ := M6.putBlk k hk
  simp only [Value.slice.injEq, Option.some.injEq, Addr.mk.injEq, and_true, true_and] at hB2
  obtain ⟨rfl, rfl⟩ := hB2
  have M7 := hput2 b'
  clear hput hput2 hc hg RUN hT RT q0 q1 q2 q3 q4 q5 q6 q7 q8 q9 cB cS cN k2' M6 hb6
  generalize setBlk w6 g (k * 10) b' = w7 at *
  have lX7 := M7.lt
  have hpos : 0 < m.st.length := by have := HL.out; have := HS.out.2.2; have := HS.out.2.1; omega
  have hcut := own_cut M7.oS s0.length (by have := HL.out; show s0.length ≤ m.st.length; omega) hpos
  obtain ⟨gS, hA, -⟩ := own_put M7.oS 0 hpos 0
  subst hA
  have htk : m.st.take s0.length = s0 := by rw [HS.out.1, List.take_left' rfl]
  rw [show (⟨⟨m.s.vars, m.s.blocks.set k b'⟩, m.st, m.at_, m.steps⟩ : GMach).st = m.st from rfl, htk] at hcut
  have hqS : s0.length ≤ qS ∧ 0 < qS := by
    obtain ⟨_, h2⟩ := M7.oS
    rcases h2 with ⟨e, _⟩ | ⟨g, cap, cur, hv, _, _, hn, _⟩
    · cases e
    · injection hv with _ _ e3
      subst e3
      have := HL.out
      have hn2 : m.st.length ≤ qS := hn
      omega
  have HD := fun W => run_headI W ⟨gS, 0, none⟩ m.st.length qS s0.length hqS.1 hqS.2 rfl
  have M8 : Fact (MSt w0 (w7.setCell ⟨X, 6, none⟩ (.slice (some ⟨gS, 0, none⟩) s0.length qS)) X c vs (.slice (some ⟨gb, ob, none⟩) c.blocks.length c2) is now ⟨⟨m.s.vars, m.s.blocks.set k b'⟩, s0, m.at_, m.steps⟩ V (.slice (some ⟨g, 0, none⟩) m.s.blocks.length q) (.slice (some ⟨gS, 0, none⟩) s0.length qS)) := ⟨M7.stack (m' := ⟨⟨m.s.vars, m.s.blocks.set k b'⟩, s0, m.at_, m.steps⟩) rfl rfl rfl ⟨⟨rfl, rfl, rfl, Nat.le_refl _, fun _ _ _ => rfl⟩, fun k hk => .inl hk⟩ hcut⟩
  have c6 : w7.cell? ⟨X, 6, none⟩ = some (.slice (some ⟨gS, 0, none⟩) m.st.length qS) := cell_of_row _ _ 6 _ _ _ M7.row
  have f6 : w7.frozen? ⟨X, 6, none⟩ = false := frozen_of_row _ _ _ _ _ M7.row
  clear M7 hcut htk hqS
  go_wp2
  go_end0
  exact ⟨rfl, _, M8.out⟩
end Go.Proofs.Ytiogpainajokkaa

