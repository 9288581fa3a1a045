/- Contracts of the runner's small methods: on, stops, goes. -/
import Derived.Test.YtjanofopmmndoaaBaseM
import Derived.RegionTactic
import Derived.BigRegion
import Derived.Deep.QuietTactic
import Derived.BigQuiet
namespace Go.Proofs.Ytjanofopmmndoaa
open Go.RowKit
set_option maxRecDepth 100000 in
set_option maxHeartbeats 400000 in
theorem on_any (w : World) (R B : Nat) (ins : List Int) (now : Int) (rise fall : Bool) (b : GBlock) (h : RunSt w R B ins now rise fall b) (i : Nat) (hi : i < ins.length) : Calls Try.prog 31 #[.pointer (some ⟨R, 0, none⟩), .int .i64 i] w fun e w' => e = .returned (.bool (onB ins i)) ∧ w = w' := by
  obtain ⟨⟨vs, h1, h2, h3⟩, h4, h5⟩ := h
  obtain ⟨k, off, c, rfl, hc⟩ := h1.at64 i hi
  obtain ⟨c0, c1, c2, c3, c4, -, -, -, -, -⟩ := row5 h3
  have h0 : (i : Int) < (ins.length : Int) := by omega
  clear h1 h3 h4 h5 h2
  unfold onB
  go_enter Try.func31, Try.ntmps31
  go_wp2
  go_ret
  exact ⟨ret_bool (by rw [List.getD_eq_getElem?_getD, List.getElem?_eq_getElem hi]; rfl), rfl⟩
set_option maxRecDepth 100000 in
set_option maxHeartbeats 400000 in
theorem stops_any (w : World) (R B : Nat) (ins : List Int) (now : Int) (rise fall : Bool) (b : GBlock) (h : RunSt w R B ins now rise fall b) : Calls Try.prog 43 #[.pointer (some ⟨R, 0, none⟩)] w (RunPost w R B ins now rise fall (stopB b) (.tuple #[])) := by
  have H := Fact.mk h
  obtain ⟨⟨vs, h1, h2, h3⟩, h4, h5⟩ := h
  obtain ⟨c0, c1, c2, c3, c4, -, -, -, -, -⟩ := row5 h3
  obtain ⟨d0, d1, d2, d3, d4, d5, d6, d7, d8, d9, f0, f1, f2, f3, f4, f5, f6, f7, f8, f9⟩ := row10 h4
  have H4 := Fact.mk h4
  clear h1 h2 h3 h4
  go_enter Try.func43, Try.ntmps43
  go_wp2
  go_region
  go_end0
  have hg := grown_trans (grown_set w B 4 (.bool false)) (grown_trans (grown_set _ B 5 (.int .i64 0)) (grown_drew _ _))
  exact ⟨rfl, H.out.next hg (set10_5 (set10_4 H4.out)), hg⟩
theorem now_in {a b : Int} (h1 : 0 ≤ a) (h2 : a ≤ 1125899906842624) (h3 : 0 ≤ b) (h4 : b ≤ 1125899906842624) : wrap64 (a - b) = a - b := by unfold wrap64; omega
theorem goes_closeT {w : World} {R B : Nat} {ins : List Int} {now : Int} {rise fall : Bool} {b : GBlock} (H : RunSt w R B ins now rise fall b) (hg : b.going = true) (x V : Int) (r : Bool) (hV : V = min (max (now - b.frm) 0) x) (hr : r = decide (x ≤ max (now - b.frm) 0)) :
    RunPost w R B ins now rise fall (goB b now x) (.bool (overB b now x)) (.returned (.bool r)) ((w.setCell ⟨B, 6, none⟩ (.int .i64 V)).drew) := by
  have e1 : overB b now x = r := by rw [hr]; simp [overB, goneB, sinceB, hg]
  have e2 : goB b now x = { b with going := b.going, frm := b.frm, et := V } := by simp [goB, goneB, sinceB, hg, hV]
  rw [e1, e2]
  have h := grown_trans (grown_set w B 6 (.int .i64 V)) (grown_drew _ _)
  exact ⟨rfl, H.next h (set10_6 H.blk), h⟩
theorem goes_closeF {w : World} {R B : Nat} {ins : List Int} {now : Int} {rise fall : Bool} {b : GBlock} (H : RunSt w R B ins now rise fall b) (hg : b.going = false) (x V : Int) (r : Bool) (hV : V = min 0 x) (hr : r = decide (x ≤ 0)) :
    RunPost w R B ins now rise fall (goB b now x) (.bool (overB b now x)) (.returned (.bool r)) ((((w.setCell ⟨B, 4, none⟩ (.bool true)).setCell ⟨B, 5, none⟩ (.int .i64 now)).setCell ⟨B, 6, none⟩ (.int .i64 V)).drew.drew) := by
  have e1 : overB b now x = r := by rw [hr]; simp [overB, goneB, sinceB, hg]
  have e2 : goB b now x = { b with going := true, frm := now, et := V } := by simp [goB, goneB, sinceB, hg, hV]
  rw [e1, e2]
  have h := grown_trans (grown_set w B 4 (.bool true)) (grown_trans (grown_set _ B 5 (.int .i64 now)) (grown_trans (grown_set _ B 6 (.int .i64 V)) (grown_trans (grown_drew _ _) (grown_drew _ _))))
  exact ⟨rfl, H.next h (set10_6 (set10_5 (set10_4 H.blk))), h⟩
set_option maxRecDepth 100000 in
set_option maxHeartbeats 800000 in
theorem goes_any (w : World) (R B : Nat) (ins : List Int) (now : Int) (rise fall : Bool) (b : GBlock) (x : Int) (h : RunSt w R B ins now rise fall b) (hi : 1 < ins.length) (hx : ins.getD 1 0 = x) (n1 : 0 ≤ now) (n2 : now ≤ 1125899906842624) (f1 : 0 ≤ b.frm) (f2 : b.frm ≤ 1125899906842624) :
    Calls Try.prog 42 #[.pointer (some ⟨R, 0, none⟩)] w (RunPost w R B ins now rise fall (goB b now x) (.bool (overB b now x))) := by
  have H := Fact.mk h
  obtain ⟨⟨vs, h1, h2, h3⟩, h4, h5⟩ := h
  obtain ⟨k, off, c, rfl, hc⟩ := h1.at64 1 hi
  rw [hx] at hc
  have hkb : ¬ k = B := fun e => h2 (by rw [e]; rfl)
  obtain ⟨c0, c1, c2, c3, c4, -, -, -, -, -⟩ := row5 h3
  obtain ⟨d0, d1, d2, d3, d4, d5, d6, d7, d8, d9, g0, g1, g2, g3, g4, g5, g6, g7, g8, g9⟩ := row10 h4
  have h0 : (1 : Int) < (ins.length : Int) := by omega
  clear h1 h2 h3 h4 hx
  cases hg : b.going with
  | true =>
    rw [hg] at d4
    have HG := Fact.mk hg
    clear hg
    go_enter Try.func42, Try.ntmps42
    go_wp2
    go_region
    all_goals go_wp2
    all_goals go_ret
    all_goals exact goes_closeT H.out HG.out x _ _ (by omega) (by first | (rw [decide_eq_decide]; omega) | (symm; simp <;> omega))
  | false =>
    rw [hg] at d4
    have HG := Fact.mk hg
    clear hg
    go_enter Try.func42, Try.ntmps42
    go_wp2
    go_region
    all_goals go_wp2
    go_region
    all_goals go_wp2
    all_goals go_ret
    all_goals exact goes_closeF H.out HG.out x _ _ (by omega) (by first | (rw [decide_eq_decide]; omega) | (symm; simp <;> omega))
end Go.Proofs.Ytjanofopmmndoaa

