/- The contract of sameTypes. -/
import Derived.Test.YthiapebodpkamaaWords
import Derived.Test.YthiapebodpkamaaCodeA
import Derived.Deep.QuietTactic
import Derived.BigQuiet
namespace Go.Proofs.Ythiapebodpkamaa
open Go.RowKit
set_option maxHeartbeats 400000 in
set_option maxRecDepth 100000 in
theorem same_any (w : World) (v1 v2 : Value) (xs ys : List Int) (h1 : Rd oneU8 1 w v1 xs) (h2 : Rd oneU8 1 w v2 ys) :
    Calls Try.prog 36 #[v1, v2] w fun e w' => e = .returned (.bool (decide (xs = ys))) ∧ Below w.heap.size w w' := by
  obtain ⟨l1, A1, c1, rfl, hc1, _, r1⟩ := h1
  obtain ⟨l2, A2, c2, rfl, hc2, _, r2⟩ := h2
  have R1 := Fact.mk r1
  have R2 := Fact.mk r2
  clear r1 r2
  by_cases hl : xs.length = ys.length
  · go_enter Try.func36, Try.ntmps36
    go_wp2_with fail
    go_loopw [13] (fun i wr => ∃ k : Nat, k ≤ xs.length ∧ i = .int .i64 k ∧ Fact (Below w.heap.size w wr ∧ xs.take k = ys.take k)) (fun i _ => xs.length - (intOf i).toNat)
    case atStart => exact ⟨0, Nat.zero_le _, rfl, ⟨⟨Below.refl _ _, rfl⟩⟩⟩
    case round =>
      obtain ⟨k, hk, rfl, hB⟩ := hrel
      by_cases hlt : k < xs.length
      · obtain ⟨b1, o1, rfl, q1⟩ := R1.out (by omega)
        obtain ⟨b2, o2, rfl, q2⟩ := R2.out (by omega)
        have p1 : wr.cell? ⟨b1, o1 + k, none⟩ = some (.int .u8 xs[k]) := by
          have := cell_below hB.out.1 _ _ (q1 k hlt 0 _ rfl)
          rwa [show o1 + k * 1 + 0 = o1 + k from by omega] at this
        have hlt2 : k < ys.length := by omega
        have p2 : wr.cell? ⟨b2, o2 + k, none⟩ = some (.int .u8 ys[k]) := by
          have := cell_below hB.out.1 _ _ (q2 k hlt2 0 _ rfl)
          rwa [show o2 + k * 1 + 0 = o2 + k from by omega] at this
        clear q1 q2
        have i1 : (k : Int) < (xs.length : Int) := by omega
        have i2 : (k : Int) < (ys.length : Int) := by omega
        go_wp2_with fail
        go_quiet (fail)
        have hB2 : Below w.heap.size w (wr.drewN nq) := hB.out.1.trans ⟨rfl, rfl, rfl, Nat.le_refl _, fun _ _ => rfl⟩
        have HB2 := Fact.mk hB2
        clear hB2 p1 p2
        by_cases he : xs[k] = ys[k]
        · have e1 : (xs[k] != ys[k]) = false := by simp [he]
          rw [e1]
          go_wp2_with fail
          go_roundw
          case rel =>
            refine ⟨k + 1, by omega, by go_num, ⟨⟨HB2.out, ?_⟩⟩⟩
            rw [List.take_succ_eq_append_getElem hlt, List.take_succ_eq_append_getElem hlt2, hB.out.2, he]
          case measure => simp [intOf]; omega
        · have e1 : (xs[k] != ys[k]) = true := by simpa using he
          rw [e1]
          go_wp2_with fail
          go_ret
          refine ⟨ret_bool ?_, HB2.out⟩
          exact (decide_eq_false (fun h => he (by subst h; rfl))).symm
      · obtain rfl : k = xs.length := by omega
        go_wp2_with fail
        go_ret
        refine ⟨ret_bool ?_, hB.out.1⟩
        have h := hB.out.2
        rw [List.take_length] at h
        rw [hl, List.take_length] at h
        exact (decide_eq_true h).symm
  · go_enter Try.func36, Try.ntmps36
    go_wp2_with fail
    go_ret
    refine ⟨ret_bool ?_, Below.refl _ _⟩
    exact (decide_eq_false (fun h => hl (by rw [h]))).symm
end Go.Proofs.Ythiapebodpkamaa

