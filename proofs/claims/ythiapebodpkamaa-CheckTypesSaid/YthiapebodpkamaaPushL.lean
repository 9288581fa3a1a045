/- CheckPushes: the walk. -/
import Derived.Test.YthiapebodpkamaaPushP
import Derived.Test.YthiapebodpkamaaGrow
namespace Go.Proofs.Ythiapebodpkamaa
open Go.RowKit
theorem insInfo : ∃ i, Try.prog.info? 38 = some i ∧ i.zero = some (.agg #[.int .u8 0, .int .u8 0, .int .i64 0, .int .i64 0]) ∧ i.size = 4 ∧ i.bytes = 24 := by
  have h : (Try.prog.info? 38).map (fun i => (i.zero, i.size, i.bytes)) = some (some (.agg #[.int .u8 0, .int .u8 0, .int .i64 0, .int .i64 0]), 4, 24) := by kernel_rfl
  obtain ⟨i, h1, h2⟩ := Option.map_eq_some_iff.1 h
  simp only [Prod.mk.injEq] at h2
  exact ⟨i, h1, h2.1, h2.2.1, h2.2.2⟩
theorem ins_one (y : GIns) : ∀ u ∈ encIns y, u.oneCell' = true := by
  intro u hu
  simp only [encIns, List.mem_cons, List.not_mem_nil, or_false] at hu
  rcases hu with rfl | rfl | rfl | rfl <;> rfl
/-- A program of instructions alone, in its box. -/
abbrev pgBox (A : Option Addr) (n c : Nat) : Obj := .cells #[.string ⟨#[112]⟩, .slice none 0 0, .slice none 0 0, .slice A n c] 32
theorem pg_cells {w W : World} {A : Option Addr} {n c : Nat} (h : Below (w.alloc (pgBox A n c)).heap.size (w.alloc (pgBox A n c)) W) : W.cell? ⟨w.heap.size, 0, none⟩ = some (.string ⟨#[112]⟩) ∧ W.cell? ⟨w.heap.size, 1, none⟩ = some (.slice none 0 0) ∧ W.cell? ⟨w.heap.size, 2, none⟩ = some (.slice none 0 0) ∧ W.cell? ⟨w.heap.size, 3, none⟩ = some (.slice A n c) := by
  have a := (h.block w.heap.size (by simp)).trans (heap_alloc_new w _)
  exact ⟨by rw [cell_of_row _ _ 0 _ _ _ a]; rfl, by rw [cell_of_row _ _ 1 _ _ _ a]; rfl, by rw [cell_of_row _ _ 2 _ _ _ a]; rfl, by rw [cell_of_row _ _ 3 _ _ _ a]; rfl⟩
theorem push_wf {n : Nat} {u : Int} (h1 : 1 ≤ u) (h2 : u ≤ 5) : (pg (pushL n u)).Wf := by
  refine pg_wf fun i hi => ?_
  rcases List.mem_append.1 hi with h | h
  · rw [List.eq_of_mem_replicate h]; exact ⟨⟨by show (0 : Int) ≤ 1; decide, by show (1 : Int) ≤ 255; decide⟩, ⟨by show 0 ≤ u; omega, by show u ≤ 255; omega⟩, ⟨by show _ ≤ (0 : Int); decide, by show (0 : Int) ≤ _; decide⟩, ⟨by show _ ≤ (0 : Int); decide, by show (0 : Int) ≤ _; decide⟩⟩
  · rw [List.eq_of_mem_replicate h]; exact ⟨by decide, by decide, by decide, by decide⟩
set_option maxHeartbeats 4000000 in
set_option maxRecDepth 100000 in
theorem pushes_any (m t : Int) (hm0 : 0 ≤ m) (hm1 : m ≤ 255) (ht0 : 0 ≤ t) (ht1 : t ≤ 255) (w : World) :
    Calls Try.prog 10 #[.int .u8 m, .int .u8 t] w fun e w' => e = .returned (.bool true) ∧ Below w.heap.size w w' := by
  obtain ⟨i0, hi, hz0, hz1, hz2⟩ := insInfo
  obtain ⟨n, hn, hn0, hn1⟩ : ∃ n : Nat, 1 + m % 100 = n ∧ 1 ≤ n ∧ n ≤ 100 := ⟨(1 + m % 100).toNat, by omega, by omega, by omega⟩
  obtain ⟨u, hu, hu0, hu1⟩ : ∃ u : Int, 1 + t % 5 = u ∧ 1 ≤ u ∧ u ≤ 5 := ⟨_, rfl, by omega, by omega⟩
  go_enter Try.func10, Try.ntmps10
  go_wp2_with fail
  go_loopw [6, 16] (fun l i wr => ∃ k : Nat, k ≤ n ∧ i = .int .i64 k ∧ Fact (Own 38 4 encIns wr w.heap.size l (List.replicate k (pushIns u))) ∧ Fact (Below w.heap.size w wr)) (fun _ i _ => n - (intOf i).toNat)
  case atStart => exact ⟨0, Nat.zero_le _, rfl, ⟨Own.nil _ _ _ _ _⟩, ⟨Below.refl _ _⟩⟩
  case round =>
    obtain ⟨k, hk, rfl, hown, hb⟩ := hrel
    obtain ⟨l, hl⟩ : ∃ l, l = List.replicate k (pushIns u) := ⟨_, rfl⟩
    rw [← hl] at hown
    have hlk : l.length ≤ 100 := by rw [hl]; simp; omega
    have hlen := Fact.mk hl
    clear hl
    by_cases hlt : k < n
    · go_wp2_with (at_builtin; refine wpList_push rfl _ _ 30 rfl w.heap.size 38 i0 (.agg #[.int .u8 0, .int .u8 0, .int .i64 0, .int .i64 0]) 4 24 Try.underlying30 hi hz0 hz1 hz2 rfl (by decide) (by decide) encIns _ _ rfl hown.out (pushIns u) rfl rfl (ins_one _) ?c1 hb.out.size ?_; case c1 => omega)
      intro v' w' ho' _ hb'
      go_wp2
      go_roundw
      case rel => exact ⟨k + 1, by omega, by go_num, ⟨by rw [hlen.out] at ho'; rw [List.replicate_succ']; exact ho'⟩, ⟨hb.out.trans hb'⟩⟩
      case measure => simp [intOf]; omega
    · obtain rfl : k = n := by omega
      go_wp2_with fail
      go_loopw [6, 27] (fun l i wr => ∃ j : Nat, j ≤ k ∧ i = .int .i64 j ∧ Fact (Own 38 4 encIns wr w.heap.size l (List.replicate k (pushIns u) ++ List.replicate j dropIns)) ∧ Fact (Below w.heap.size w wr)) (fun _ i _ => k - (intOf i).toNat)
      case atStart => exact ⟨0, Nat.zero_le _, rfl, ⟨by rw [hlen.out] at hown; simpa using hown.out⟩, hb⟩
      case round =>
        clear hown hb hlen hlk
        obtain ⟨j, hj, rfl, hown, hb⟩ := hrel
        obtain ⟨l2, hl⟩ : ∃ l, l = List.replicate k (pushIns u) ++ List.replicate j dropIns := ⟨_, rfl⟩
        rw [← hl] at hown
        have hlk2 : l2.length ≤ 200 := by rw [hl]; simp; omega
        have hlen := Fact.mk hl
        clear hl
        by_cases hlt2 : j < k
        · go_wp2_with (at_builtin; refine wpList_push rfl _ _ 30 rfl w.heap.size 38 i0 (.agg #[.int .u8 0, .int .u8 0, .int .i64 0, .int .i64 0]) 4 24 Try.underlying30 hi hz0 hz1 hz2 rfl (by decide) (by decide) encIns _ _ rfl hown.out dropIns rfl rfl (ins_one _) ?c1 hb.out.size ?_; case c1 => omega)
          intro v' w' ho' _ hb'
          go_wp2
          go_roundw
          case rel => exact ⟨j + 1, by omega, by go_num, ⟨by rw [hlen.out] at ho'; rw [List.replicate_succ', ← List.append_assoc]; exact ho'⟩, ⟨hb.out.trans hb'⟩⟩
          case measure => simp [intOf]; omega
        · obtain rfl : j = k := by omega
          have hl2 : l2 = pushL j u := hlen.out
          subst hl2
          have WF := Fact.mk (push_wf (n := j) hu0 hu1)
          have RT := Fact.mk (push_right (n := j) hu0 hu1 hn0 hn1)
          have hsz : (pg (pushL j u)).ins.length = j + j := pushL_len j u
          have HSZ : Fact (((pg (pushL j u)).ins.length : Int) < 9223372036854775807) := ⟨by rw [hsz]; omega⟩
          obtain ⟨A, c, rfl⟩ := hown.out.slice2
          have RD := Fact.mk (hown.out.rd encIns_len)
          have HU := Fact.mk (And.intro hu0 hu1)
          have H100 := Fact.mk hn1
          clear hlen hsz hown hlt hlt2 hlk2 hj hk hu hm0 hm1 ht0 ht1 hu0 hu1
          rw [pushL_len] at RD ⊢
          go_wp2_with fail
          refine (prog_any _ _ _ _).mono ?_
          rintro e V0 ⟨rfl, hb0⟩
          unfold vPg
          have RD0 := Fact.mk (pg_rd (RD.out.below hb0))
          have BV := Fact.mk (hb.out.trans (hb0.mono hb.out.size))
          clear hb0 RD hb
          go_wp2_with fail
          refine (right_any (pg (pushL j u)) WF.out HSZ.out _ _ _ _ (RD0.out.below (one_block V0 _).1)).mono ?_
          rintro e W1 ⟨rfl, hb1⟩
          rw [RT.out]
          obtain ⟨k0, k1, k2, k3⟩ := pg_cells hb1
          have B1 := Fact.mk hb1
          clear hb1
          by_cases h64 : 64 < j
          · have PB := Fact.mk (push_bad HU.out.1 HU.out.2 h64 H100.out)
            go_wp2_with fail
            refine (spots_any (pg (pushL j u)) WF.out HSZ.out _ _ _ _ ((RD0.out.below (one_block V0 _).1).below B1.out)).mono ?_
            rintro e W2 ⟨v2, rfl, hsp, hb2⟩
            rw [PB.out] at hsp ⊢
            have hv : ∃ A n c, v2 = .slice A n c := by
              rcases hsp with ⟨h, _⟩ | ⟨S, _, h, _⟩
              · exact ⟨_, _, _, h⟩
              · exact ⟨_, _, _, h⟩
            obtain ⟨A2, n2, c2, rfl⟩ := hv
            have B2 := Fact.mk (B1.out.trans (hb2.mono B1.out.size))
            clear hb2 hsp k0 k1 k2 k3
            go_wp2_with fail
            refine (awk14_any _).mono ?_
            rintro e W9 ⟨rfl, hb9⟩
            have B9 := Fact.mk (B2.out.trans (hb9.mono B2.out.size))
            clear hb9
            go_wp2
            go_ret
            exact ⟨rfl, (BV.out.alloc BV.out.size _).trans (B9.out.mono (Nat.le_trans BV.out.size (by simp)))⟩
          · have PC := Fact.mk (push_check HU.out.1 HU.out.2 hn0 (by omega : j ≤ 64))
            go_wp2_with fail
            refine (check_any (pg (pushL j u)) WF.out HSZ.out _ _ _ _ _ ((RD0.out.below (one_block V0 _).1).below B1.out)).mono ?_
            rintro e W2 ⟨rfl, hb2⟩
            rw [PC.out.1]
            have B2 := Fact.mk (B1.out.trans (hb2.mono B1.out.size))
            clear hb2 k0 k1 k2 k3
            obtain ⟨k0, k1, k2, k3⟩ := pg_cells B2.out
            go_wp2_with fail
            refine (check_any (pg (pushL j u)) WF.out HSZ.out _ _ _ _ _ ((RD0.out.below (one_block V0 _).1).below B2.out)).mono ?_
            rintro e W3 ⟨rfl, hb3⟩
            rw [PC.out.2]
            have B3 := Fact.mk (B2.out.trans (hb3.mono B2.out.size))
            clear hb3 k0 k1 k2 k3
            go_wp2_with fail
            refine (awk14_any _).mono ?_
            rintro e W9 ⟨rfl, hb9⟩
            have B9 := Fact.mk (B3.out.trans (hb9.mono B3.out.size))
            clear hb9
            go_wp2
            go_ret
            exact ⟨rfl, (BV.out.alloc BV.out.size _).trans (B9.out.mono (Nat.le_trans BV.out.size (by simp)))⟩
end Go.Proofs.Ythiapebodpkamaa

