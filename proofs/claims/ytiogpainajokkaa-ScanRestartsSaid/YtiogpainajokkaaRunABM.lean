/- Contracts of the runner's small methods: on, stops, goes. -/
import Derived.Test.YtiogpainajokkaaBlkM
import Derived.RegionTactic
import Derived.BigRegion
import Derived.Deep.QuietTactic
import Derived.BigQuiet
namespace Go.Proofs.Ytiogpainajokkaa
open Go.RowKit
set_option maxRecDepth 100000 in
set_option maxHeartbeats 400000 in
theorem on_any (w : World) (R B : Nat) (ins : List Int) (now : Int) (rise fall : Bool) (b : GBlock) (h : RunSt w R B ins now rise fall b) (i : Nat) (hi : i < ins.length) : Calls Try.prog 159 #[.pointer (some ⟨R, 0, none⟩), .int .i64 i] w fun e w' => e = .returned (.bool (onB ins i)) ∧ w = w' := by
  obtain ⟨⟨vs, h1, h2, h3⟩, h4, h5⟩ := h
  obtain ⟨k, off, c, rfl, hc⟩ := h1.at64 i hi
  obtain ⟨c0, c1, c2, c3, c4, -, -, -, -, -⟩ := row5 h3
  have h0 : (i : Int) < (ins.length : Int) := by omega
  clear h1 h3 h4 h5 h2
  unfold onB
  go_enter Try.func159, Try.ntmps159
  go_wp2
  go_ret
  exact ⟨ret_bool (by rw [List.getD_eq_getElem?_getD, List.getElem?_eq_getElem hi]; rfl), rfl⟩
set_option maxRecDepth 100000 in
set_option maxHeartbeats 400000 in
theorem stops_any (w : World) (R B : Nat) (ins : List Int) (now : Int) (rise fall : Bool) (b : GBlock) (h : RunSt w R B ins now rise fall b) : Calls Try.prog 165 #[.pointer (some ⟨R, 0, none⟩)] w (RunPost w R B ins now rise fall (stopB b) (.tuple #[])) := by
  have H := Fact.mk h
  obtain ⟨⟨vs, h1, h2, h3⟩, h4, h5⟩ := h
  obtain ⟨c0, c1, c2, c3, c4, -, -, -, -, -⟩ := row5 h3
  obtain ⟨d0, d1, d2, d3, d4, d5, d6, d7, d8, d9, f0, f1, f2, f3, f4, f5, f6, f7, f8, f9⟩ := row10 h4
  have H4 := Fact.mk h4
  clear h1 h2 h3 h4
  go_enter Try.func165, Try.ntmps165
  go_wp2
  go_region
  go_end0
  have hg := grown_trans (grown_set w B 4 (.bool false)) (grown_trans (grown_set _ B 5 (.int .i64 0)) (grown_drew _ _))
  exact ⟨rfl, H.out.next hg (set10_5 (set10_4 H4.out)), hg⟩
theorem now_in {a b : Int} (h1 : 0 ≤ a) (h2 : a ≤ 1125899906842624) (h3 : 0 ≤ b) (h4 : b ≤ 1125899906842624) : wrap64 (a - b) = a - b := by unfold wrap64; omega
theorem goes_closeT {w : World} {R B : Nat} {ins : List Int} {now : Int} {rise fall : Bool} {b : GBlock} (H : RunSt w R B ins now rise fall b) (hg : b.going = true) (x V : Int) (r : Bool) (hV : V = min (max (now - b.frm) 0) x) (hr : r = decide (x ≤ max (now - b.frm) 0)) :
    RunPost w R B ins now rise fall (goB b now x) (.bool (overB b now x)) (.returned (.bool r)) ((w.setCell ⟨B, 6, none⟩ (.int .i64 V)).drew) := by
  have e1 : overB b now x = r := by rw [hr]; simp [overB, goneB, sinceB, hg]
  have e2 : goB b now x = { b with going := b.going, frm := b.frm, et := V } := by simp [goB, goneB, sinceB, hg, hV]
  rw [e1, e2]
  have h := grown_trans (grown_set w B 6 (.int .i64 V)) (grown_drew _ _)
  exact ⟨rfl, H.next h (set10_6 H.blk), h⟩
theorem goes_closeF {w : World} {R B : Nat} {ins : List Int} {now : Int} {rise fall : Bool} {b : GBlock} (H : RunSt w R B ins now rise fall b) (hg : b.going = false) (x V : Int) (r : Bool) (hV : V = min 0 x) (hr : r = decide (x ≤ 0)) :
    RunPost w R B ins now rise fall (goB b now x) (.bool (overB b now x)) (.returned (.bool r)) ((((w.setCell ⟨B, 4, none⟩ (.bool true)).setCell ⟨B, 5, none⟩ (.int .i64 now)).setCell ⟨B, 6, none⟩ (.int .i64 V)).drew.drew) := by
  have e1 : overB b now x = r := by rw [hr]; simp [overB, goneB, sinceB, hg]
  have e2 : goB b now x = { b with going := true, frm := now, et := V } := by simp [goB, goneB, sinceB, hg, hV]
  rw [e1, e2]
  have h := grown_trans (grown_set w B 4 (.bool true)) (grown_trans (grown_set _ B 5 (.int .i64 now)) (grown_trans (grown_set _ B 6 (.int .i64 V)) (grown_trans (grown_drew _ _) (grown_drew _ _))))
  exact ⟨rfl, H.next h (set10_6 (set10_5 (set10_4 H.blk))), h⟩
set_option maxRecDepth 100000 in
set_option maxHeartbeats 800000 in
theorem rgoes_any (w : World) (R B : Nat) (ins : List Int) (now : Int) (rise fall : Bool) (b : GBlock) (x : Int) (h : RunSt w R B ins now rise fall b) (hi : 1 < ins.length) (hx : ins.getD 1 0 = x) (n1 : 0 ≤ now) (n2 : now ≤ 1125899906842624) (f1 : 0 ≤ b.frm) (f2 : b.frm ≤ 1125899906842624) :
    Calls Try.prog 164 #[.pointer (some ⟨R, 0, none⟩)] w (RunPost w R B ins now rise fall (goB b now x) (.bool (overB b now x))) := by
  have H := Fact.mk h
  obtain ⟨⟨vs, h1, h2, h3⟩, h4, h5⟩ := h
  obtain ⟨k, off, c, rfl, hc⟩ := h1.at64 1 hi
  rw [hx] at hc
  have hkb : ¬ k = B := fun e => h2 (by rw [e]; rfl)
  obtain ⟨c0, c1, c2, c3, c4, -, -, -, -, -⟩ := row5 h3
  obtain ⟨d0, d1, d2, d3, d4, d5, d6, d7, d8, d9, g0, g1, g2, g3, g4, g5, g6, g7, g8, g9⟩ := row10 h4
  have h0 : (1 : Int) < (ins.length : Int) := by omega
  clear h1 h2 h3 h4 hx
  cases hg : b.going with
  | true =>
    rw [hg] at d4
    have HG := Fact.mk hg
    clear hg
    go_enter Try.func164, Try.ntmps164
    go_wp2
    go_region
    all_goals go_wp2
    all_goals go_ret
    all_goals exact goes_closeT H.out HG.out x _ _ (by omega) (by first | (rw [decide_eq_decide]; omega) | (symm; simp <;> omega))
  | false =>
    rw [hg] at d4
    have HG := Fact.mk hg
    clear hg
    go_enter Try.func164, Try.ntmps164
    go_wp2
    go_region
    all_goals go_wp2
    go_region
    all_goals go_wp2
    all_goals go_ret
    all_goals exact goes_closeF H.out HG.out x _ _ (by omega) (by first | (rw [decide_eq_decide]; omega) | (symm; simp <;> omega))
end Go.Proofs.Ytiogpainajokkaa

namespace Go.Proofs.Ytiogpainajokkaa
open Go.RowKit
theorem RunSt.facts {w : World} {R B : Nat} {ins : List Int} {now : Int} {rise fall : Bool} {b : GBlock} (h : RunSt w R B ins now rise fall b) : ∃ vs, w.cell? ⟨R, 0, none⟩ = some (.pointer (some ⟨B, 0, none⟩)) ∧ w.cell? ⟨R, 1, none⟩ = some vs ∧ w.cell? ⟨R, 2, none⟩ = some (.int .i64 now) ∧ w.cell? ⟨R, 3, none⟩ = some (.bool rise) ∧ w.cell? ⟨R, 4, none⟩ = some (.bool fall) ∧ w.cell? ⟨B, 0, none⟩ = some (.int .u8 b.kind) ∧ w.cell? ⟨B, 1, none⟩ = some (.bool b.w0) ∧ w.cell? ⟨B, 2, none⟩ = some (.bool b.w1) ∧ w.cell? ⟨B, 3, none⟩ = some (.bool b.ran) ∧ w.cell? ⟨B, 4, none⟩ = some (.bool b.going) ∧ w.cell? ⟨B, 5, none⟩ = some (.int .i64 b.frm) ∧ w.cell? ⟨B, 6, none⟩ = some (.int .i64 b.et) ∧ w.cell? ⟨B, 7, none⟩ = some (.int .i64 b.cv) ∧ w.cell? ⟨B, 8, none⟩ = some (.bool b.q) ∧ w.cell? ⟨B, 9, none⟩ = some (.bool b.p) ∧ w.frozen? ⟨B, 0, none⟩ = false ∧ w.frozen? ⟨B, 1, none⟩ = false ∧ w.frozen? ⟨B, 2, none⟩ = false ∧ w.frozen? ⟨B, 3, none⟩ = false ∧ w.frozen? ⟨B, 4, none⟩ = false ∧ w.frozen? ⟨B, 5, none⟩ = false ∧ w.frozen? ⟨B, 6, none⟩ = false ∧ w.frozen? ⟨B, 7, none⟩ = false ∧ w.frozen? ⟨B, 8, none⟩ = false ∧ w.frozen? ⟨B, 9, none⟩ = false := by
  obtain ⟨⟨vs, h1, h2, h3⟩, h4, h5⟩ := h
  obtain ⟨c0, c1, c2, c3, c4, -, -, -, -, -⟩ := row5 h3
  obtain ⟨d0, d1, d2, d3, d4, d5, d6, d7, d8, d9, g0, g1, g2, g3, g4, g5, g6, g7, g8, g9⟩ := row10 h4
  exact ⟨vs, c0, c1, c2, c3, c4, d0, d1, d2, d3, d4, d5, d6, d7, d8, d9, g0, g1, g2, g3, g4, g5, g6, g7, g8, g9⟩

def runOn (b : GBlock) (now pt : Int) : GBlock := if overB b now pt = true then { stopB (goB b now pt) with q := false } else goB b now pt
def pulseA (b : GBlock) (rise : Bool) (now : Int) : GBlock := if (rise && !b.going) = true then { b with going := true, frm := now, q := true } else b
def pulseC (b : GBlock) (now pt : Int) : GBlock := if b.going = true then runOn b now pt else b
def pulseE (b : GBlock) (x : Bool) : GBlock := if (!b.going && !x) = true then { b with et := 0 } else b
def pulseB (b : GBlock) (rise x : Bool) (now pt : Int) : GBlock := pulseE (pulseC (pulseA b rise now) now pt) x
def timerB (b : GBlock) (rise x : Bool) (now pt : Int) : GBlock :=
  if b.kind = 3 then pulseB b rise x now pt
  else if b.kind = 1 then (if x = true then { goB b now pt with q := overB b now pt } else { stopB b with et := 0, q := false })
  else if x = true then { stopB b with et := 0, q := true } else if b.q = true then runOn b now pt else b
theorem RunSt.set {w : World} {R B : Nat} {ins : List Int} {now : Int} {rise fall : Bool} {b : GBlock} (H : RunSt w R B ins now rise fall b) {w' : World} {b' : GBlock} (hg : w.grownBy w' (some B))
    (hb : w'.heap[B]? = some (.cells #[.int .u8 b'.kind, .bool b'.w0, .bool b'.w1, .bool b'.ran, .bool b'.going, .int .i64 b'.frm, .int .i64 b'.et, .int .i64 b'.cv, .bool b'.q, .bool b'.p] 67 (0, 0))) {w0 : World} (h0 : w0.grownBy w (some B)) {b2 : GBlock} (he : b2 = b') : RunPost w0 R B ins now rise fall b2 (.tuple #[]) (.returned (.tuple #[])) w' := by
  subst he
  exact ⟨rfl, H.next hg hb, grown_trans h0 hg⟩
set_option maxRecDepth 100000 in
set_option maxHeartbeats 1000000 in
theorem timer_1 (w : World) (R B : Nat) (ins : List Int) (now : Int) (rise fall : Bool) (b : GBlock) (x : Int) (h : RunSt w R B ins now rise fall b) (hi : 1 < ins.length) (hx : ins.getD 1 0 = x) (n1 : 0 ≤ now) (n2 : now ≤ 1125899906842624) (f1 : 0 ≤ b.frm) (f2 : b.frm ≤ 1125899906842624) (hk : b.kind = 1) :
    Calls Try.prog 157 #[.pointer (some ⟨R, 0, none⟩)] w (RunPost w R B ins now rise fall (timerB b rise (onB ins 0) now x) (.tuple #[])) := by
  have H := Fact.mk h
  have HX := Fact.mk hx
  have hi0 : 0 < ins.length := by omega
  clear h hx
  have F1 := Fact.mk f1
  have F2 := Fact.mk f2
  obtain ⟨vs, c0, c1, c2, c3, c4, d0, d1, d2, d3, d4, d5, d6, d7, d8, d9, g0, g1, g2, g3, g4, g5, g6, g7, g8, g9⟩ :=  H.out.facts
  rw [hk] at d0
  have hk3 : ¬ b.kind = 3 := by omega
  have HK := Fact.mk (And.intro hk hk3)
  clear hk hk3
  cases hon : onB ins 0 with
  | true =>
    have HON := Fact.mk hon
    go_enter Try.func157, Try.ntmps157
    go_wp2_with (go_at_call 159; refine (on_any _ R B ins now rise fall b H.out 0 hi0).mono ?_; rintro e w' ⟨rfl, rfl⟩; rw [HON.out])
    refine (rgoes_any _ R B ins now rise fall b x H.out hi HX.out n1 n2 F1.out F2.out).mono ?_
    rintro e w2 ⟨rfl, HR, hg⟩
    have H2 := Fact.mk HR
    have G2 := Fact.mk hg
    clear HR hg c0 c1 c2 c3 c4 d0 d1 d2 d3 d4 d5 d6 d7 d8 d9 g0 g1 g2 g3 g4 g5 g6 g7 g8 g9
    obtain ⟨vs, c0, c1, c2, c3, c4, d0, d1, d2, d3, d4, d5, d6, d7, d8, d9, g0, g1, g2, g3, g4, g5, g6, g7, g8, g9⟩ :=  H2.out.facts
    go_wp2_with fail
    go_end0
    exact H2.out.set (grown_set w2 B 8 _) (set10_8 H2.out.blk) G2.out (b' := { goB b now x with q := overB b now x }) (by simp [timerB, HK.out.1])
  | false =>
    have HON := Fact.mk hon
    go_enter Try.func157, Try.ntmps157
    go_wp2_with (go_at_call 159; refine (on_any _ R B ins now rise fall b H.out 0 hi0).mono ?_; rintro e w' ⟨rfl, rfl⟩; rw [HON.out])
    refine (stops_any _ R B ins now rise fall b H.out).mono ?_
    rintro e w2 ⟨rfl, HR, hg⟩
    have H2 := Fact.mk HR
    have G2 := Fact.mk hg
    clear HR hg c0 c1 c2 c3 c4 d0 d1 d2 d3 d4 d5 d6 d7 d8 d9 g0 g1 g2 g3 g4 g5 g6 g7 g8 g9
    obtain ⟨vs, c0, c1, c2, c3, c4, d0, d1, d2, d3, d4, d5, d6, d7, d8, d9, g0, g1, g2, g3, g4, g5, g6, g7, g8, g9⟩ :=  H2.out.facts
    go_wp2_with fail
    go_end0
    exact H2.out.set (grown_trans (grown_set w2 B 6 _) (grown_set _ B 8 _)) (set10_8 (set10_6 H2.out.blk)) G2.out (b' := { stopB b with et := 0, q := false }) (by simp [timerB, HK.out.1])
set_option maxRecDepth 100000 in
set_option maxHeartbeats 1000000 in
theorem timer_2 (w : World) (R B : Nat) (ins : List Int) (now : Int) (rise fall : Bool) (b : GBlock) (x : Int) (h : RunSt w R B ins now rise fall b) (hi : 1 < ins.length) (hx : ins.getD 1 0 = x) (n1 : 0 ≤ now) (n2 : now ≤ 1125899906842624) (f1 : 0 ≤ b.frm) (f2 : b.frm ≤ 1125899906842624) (hk : b.kind = 2) :
    Calls Try.prog 157 #[.pointer (some ⟨R, 0, none⟩)] w (RunPost w R B ins now rise fall (timerB b rise (onB ins 0) now x) (.tuple #[])) := by
  have H := Fact.mk h
  have HX := Fact.mk hx
  have hi0 : 0 < ins.length := by omega
  clear h hx
  have F1 := Fact.mk f1
  have F2 := Fact.mk f2
  obtain ⟨vs, c0, c1, c2, c3, c4, d0, d1, d2, d3, d4, d5, d6, d7, d8, d9, g0, g1, g2, g3, g4, g5, g6, g7, g8, g9⟩ :=  H.out.facts
  rw [hk] at d0
  have hk3 : ¬ b.kind = 3 := by omega
  have hk1 : ¬ b.kind = 1 := by omega
  have HK := Fact.mk (And.intro hk (And.intro hk3 hk1))
  clear hk hk3 hk1
  cases hon : onB ins 0 with
  | true =>
    have HON := Fact.mk hon
    go_enter Try.func157, Try.ntmps157
    go_wp2_with (go_at_call 159; refine (on_any _ R B ins now rise fall b H.out 0 hi0).mono ?_; rintro e w' ⟨rfl, rfl⟩; rw [HON.out])
    refine (stops_any _ R B ins now rise fall b H.out).mono ?_
    rintro e w2 ⟨rfl, HR, hg⟩
    have H2 := Fact.mk HR
    have G2 := Fact.mk hg
    clear HR hg
    clear c0 c1 c2 c3 c4 d0 d1 d2 d3 d4 d5 d6 d7 d8 d9 g0 g1 g2 g3 g4 g5 g6 g7 g8 g9
    obtain ⟨vs, c0, c1, c2, c3, c4, d0, d1, d2, d3, d4, d5, d6, d7, d8, d9, g0, g1, g2, g3, g4, g5, g6, g7, g8, g9⟩ :=  H2.out.facts
    go_wp2_with fail
    go_end0
    exact H2.out.set (grown_trans (grown_set w2 B 6 _) (grown_set _ B 8 _)) (set10_8 (set10_6 H2.out.blk)) G2.out (b' := { stopB b with et := 0, q := true }) (by simp [timerB, HK.out.1])
  | false =>
    have HON := Fact.mk hon
    clear hon
    cases hq : b.q with
    | false =>
      rw [hq] at d8
      have HQ := Fact.mk hq
      clear hq
      go_enter Try.func157, Try.ntmps157
      go_wp2_with (go_at_call 159; refine (on_any _ R B ins now rise fall b H.out 0 hi0).mono ?_; rintro e w' ⟨rfl, rfl⟩; rw [HON.out])
      go_end0
      exact ⟨rfl, by rw [show timerB b rise false now x = b by simp [timerB, HK.out.1, HQ.out]]; exact H.out, grown_refl _ _⟩
    | true =>
      rw [hq] at d8
      have HQ := Fact.mk hq
      clear hq
      cases ho : overB b now x with
      | false =>
        have HO := Fact.mk ho
        clear ho
        go_enter Try.func157, Try.ntmps157
        go_wp2_with (go_at_call 159; refine (on_any _ R B ins now rise fall b H.out 0 hi0).mono ?_; rintro e w' ⟨rfl, rfl⟩; rw [HON.out])
        refine (rgoes_any _ R B ins now rise fall b x H.out hi HX.out n1 n2 F1.out F2.out).mono ?_
        rintro e w2 ⟨rfl, HR, hg⟩
        have H2 := Fact.mk HR
        have G2 := Fact.mk hg
        clear HR hg
        rw [HO.out]
        clear c0 c1 c2 c3 c4 d0 d1 d2 d3 d4 d5 d6 d7 d8 d9 g0 g1 g2 g3 g4 g5 g6 g7 g8 g9
        obtain ⟨vs, c0, c1, c2, c3, c4, d0, d1, d2, d3, d4, d5, d6, d7, d8, d9, g0, g1, g2, g3, g4, g5, g6, g7, g8, g9⟩ :=  H2.out.facts
        go_wp2_with fail
        go_end0
        exact ⟨rfl, by rw [show timerB b rise false now x = goB b now x by simp [timerB, runOn, HK.out.1, HQ.out, HO.out]]; exact H2.out, G2.out⟩
      | true =>
        have HO := Fact.mk ho
        clear ho
        go_enter Try.func157, Try.ntmps157
        go_wp2_with (go_at_call 159; refine (on_any _ R B ins now rise fall b H.out 0 hi0).mono ?_; rintro e w' ⟨rfl, rfl⟩; rw [HON.out])
        refine (rgoes_any _ R B ins now rise fall b x H.out hi HX.out n1 n2 F1.out F2.out).mono ?_
        rintro e w2 ⟨rfl, HR, hg⟩
        have H2 := Fact.mk HR
        have G2 := Fact.mk hg
        clear HR hg
        rw [HO.out]
        clear c0 c1 c2 c3 c4 d0 d1 d2 d3 d4 d5 d6 d7 d8 d9 g0 g1 g2 g3 g4 g5 g6 g7 g8 g9
        obtain ⟨vs, c0, c1, c2, c3, c4, d0, d1, d2, d3, d4, d5, d6, d7, d8, d9, g0, g1, g2, g3, g4, g5, g6, g7, g8, g9⟩ :=  H2.out.facts
        go_wp2_with fail
        refine (stops_any _ R B ins now rise fall _ H2.out).mono ?_
        rintro e w3 ⟨rfl, HR, hg⟩
        have H3 := Fact.mk HR
        have G3 := Fact.mk hg
        clear HR hg
        clear c0 c1 c2 c3 c4 d0 d1 d2 d3 d4 d5 d6 d7 d8 d9 g0 g1 g2 g3 g4 g5 g6 g7 g8 g9
        obtain ⟨vs, c0, c1, c2, c3, c4, d0, d1, d2, d3, d4, d5, d6, d7, d8, d9, g0, g1, g2, g3, g4, g5, g6, g7, g8, g9⟩ :=  H3.out.facts
        go_wp2_with fail
        go_end0
        exact H3.out.set (grown_set w3 B 8 _) (set10_8 H3.out.blk) (grown_trans G2.out G3.out) (b' := { stopB (goB b now x) with q := false }) (by simp [timerB, runOn, HK.out.1, HQ.out, HO.out])
set_option maxRecDepth 100000 in
set_option maxHeartbeats 1000000 in
theorem pulse_any (w : World) (R B : Nat) (ins : List Int) (now : Int) (rise fall : Bool) (b : GBlock) (x : Int) (h : RunSt w R B ins now rise fall b) (hi : 1 < ins.length) (hx : ins.getD 1 0 = x) (n1 : 0 ≤ now) (n2 : now ≤ 1125899906842624) (f1 : 0 ≤ b.frm) (f2 : b.frm ≤ 1125899906842624) :
    Calls Try.prog 163 #[.pointer (some ⟨R, 0, none⟩)] w (RunPost w R B ins now rise fall (pulseB b rise (onB ins 0) now x) (.tuple #[])) := by
  have H := Fact.mk h
  have HX := Fact.mk hx
  have hi0 : 0 < ins.length := by omega
  clear h hx
  have F1 := Fact.mk f1
  have F2 := Fact.mk f2
  obtain ⟨vs, c0, c1, c2, c3, c4, d0, d1, d2, d3, d4, d5, d6, d7, d8, d9, g0, g1, g2, g3, g4, g5, g6, g7, g8, g9⟩ :=  H.out.facts
  cases hg : b.going with
  | true =>
    rw [hg] at d4
    have HG := Fact.mk hg
    clear hg
    cases rise with
    | true =>
      cases ho : overB b now x with
      | true =>
        have HO := Fact.mk ho
        clear ho
        cases hon : onB ins 0 with
        | true =>
          have HON := Fact.mk hon
          clear hon
          go_enter Try.func163, Try.ntmps163
          go_wp2_with fail
          refine (rgoes_any _ R B ins now _ fall b x H.out hi HX.out n1 n2 F1.out F2.out).mono ?_
          rintro e w2 ⟨rfl, HR, hg⟩
          have H2 := Fact.mk HR
          have G2 := Fact.mk hg
          clear HR hg
          rw [HO.out]
          clear c0 c1 c2 c3 c4 d0 d1 d2 d3 d4 d5 d6 d7 d8 d9 g0 g1 g2 g3 g4 g5 g6 g7 g8 g9
          obtain ⟨vs, c0, c1, c2, c3, c4, d0, d1, d2, d3, d4, d5, d6, d7, d8, d9, g0, g1, g2, g3, g4, g5, g6, g7, g8, g9⟩ :=  H2.out.facts
          have hgt : (goB b now x).going = true := rfl
          rw [hgt] at d4
          clear hgt
          go_wp2_with fail
          refine (stops_any _ R B ins now _ fall _ H2.out).mono ?_
          rintro e w3 ⟨rfl, HR, hg⟩
          have H3 := Fact.mk HR
          have G3 := Fact.mk hg
          clear HR hg
          clear c0 c1 c2 c3 c4 d0 d1 d2 d3 d4 d5 d6 d7 d8 d9 g0 g1 g2 g3 g4 g5 g6 g7 g8 g9
          obtain ⟨vs, c0, c1, c2, c3, c4, d0, d1, d2, d3, d4, d5, d6, d7, d8, d9, g0, g1, g2, g3, g4, g5, g6, g7, g8, g9⟩ :=  H3.out.facts
          have hgt : (stopB (goB b now x)).going = false := rfl
          rw [hgt] at d4
          clear hgt
          have R3 := H3.out.next (grown_set w3 B 8 (.bool false)) (b' := { stopB (goB b now x) with q := false }) (set10_8 H3.out.blk)
          have HR3 := Fact.mk R3
          clear R3
          go_wp2_with (go_at_call 159; refine (on_any _ R B ins now _ fall _ HR3.out 0 hi0).mono ?_; rintro e w' ⟨rfl, rfl⟩; rw [HON.out])
          go_end0
          exact ⟨rfl, by rw [show pulseB b true true now x = { stopB (goB b now x) with q := false } by simp [pulseB, pulseA, pulseC, pulseE, runOn, goB, stopB, HG.out, HO.out]]; exact HR3.out, grown_trans G2.out (grown_trans G3.out (grown_set _ B 8 _))⟩
        | false =>
          have HON := Fact.mk hon
          clear hon
          go_enter Try.func163, Try.ntmps163
          go_wp2_with fail
          refine (rgoes_any _ R B ins now _ fall b x H.out hi HX.out n1 n2 F1.out F2.out).mono ?_
          rintro e w2 ⟨rfl, HR, hg⟩
          have H2 := Fact.mk HR
          have G2 := Fact.mk hg
          clear HR hg
          rw [HO.out]
          clear c0 c1 c2 c3 c4 d0 d1 d2 d3 d4 d5 d6 d7 d8 d9 g0 g1 g2 g3 g4 g5 g6 g7 g8 g9
          obtain ⟨vs, c0, c1, c2, c3, c4, d0, d1, d2, d3, d4, d5, d6, d7, d8, d9, g0, g1, g2, g3, g4, g5, g6, g7, g8, g9⟩ :=  H2.out.facts
          have hgt : (goB b now x).going = true := rfl
          rw [hgt] at d4
          clear hgt
          go_wp2_with fail
          refine (stops_any _ R B ins now _ fall _ H2.out).mono ?_
          rintro e w3 ⟨rfl, HR, hg⟩
          have H3 := Fact.mk HR
          have G3 := Fact.mk hg
          clear HR hg
          clear c0 c1 c2 c3 c4 d0 d1 d2 d3 d4 d5 d6 d7 d8 d9 g0 g1 g2 g3 g4 g5 g6 g7 g8 g9
          obtain ⟨vs, c0, c1, c2, c3, c4, d0, d1, d2, d3, d4, d5, d6, d7, d8, d9, g0, g1, g2, g3, g4, g5, g6, g7, g8, g9⟩ :=  H3.out.facts
          have hgt : (stopB (goB b now x)).going = false := rfl
          rw [hgt] at d4
          clear hgt
          have R3 := H3.out.next (grown_set w3 B 8 (.bool false)) (b' := { stopB (goB b now x) with q := false }) (set10_8 H3.out.blk)
          have HR3 := Fact.mk R3
          clear R3
          go_wp2_with (go_at_call 159; refine (on_any _ R B ins now _ fall _ HR3.out 0 hi0).mono ?_; rintro e w' ⟨rfl, rfl⟩; rw [HON.out])
          go_end0
          exact H3.out.set (grown_trans (grown_set w3 B 8 (.bool false)) (grown_set _ B 6 _)) (set10_6 (set10_8 H3.out.blk)) (grown_trans G2.out G3.out) (b' := { stopB (goB b now x) with q := false, et := 0 }) (by simp [pulseB, pulseA, pulseC, pulseE, runOn, goB, stopB, HG.out, HO.out])
      | false =>
        have HO := Fact.mk ho
        clear ho
        cases hon : onB ins 0 with
        | true =>
          have HON := Fact.mk hon
          clear hon
          go_enter Try.func163, Try.ntmps163
          go_wp2_with fail
          refine (rgoes_any _ R B ins now _ fall b x H.out hi HX.out n1 n2 F1.out F2.out).mono ?_
          rintro e w2 ⟨rfl, HR, hg⟩
          have H2 := Fact.mk HR
          have G2 := Fact.mk hg
          clear HR hg
          rw [HO.out]
          clear c0 c1 c2 c3 c4 d0 d1 d2 d3 d4 d5 d6 d7 d8 d9 g0 g1 g2 g3 g4 g5 g6 g7 g8 g9
          obtain ⟨vs, c0, c1, c2, c3, c4, d0, d1, d2, d3, d4, d5, d6, d7, d8, d9, g0, g1, g2, g3, g4, g5, g6, g7, g8, g9⟩ :=  H2.out.facts
          have hgt : (goB b now x).going = true := rfl
          rw [hgt] at d4
          clear hgt
          go_wp2_with fail
          go_end0
          exact ⟨rfl, by rw [show pulseB b true true now x = goB b now x by simp [pulseB, pulseA, pulseC, pulseE, runOn, goB, HG.out, HO.out]]; exact H2.out, G2.out⟩
        | false =>
          have HON := Fact.mk hon
          clear hon
          go_enter Try.func163, Try.ntmps163
          go_wp2_with fail
          refine (rgoes_any _ R B ins now _ fall b x H.out hi HX.out n1 n2 F1.out F2.out).mono ?_
          rintro e w2 ⟨rfl, HR, hg⟩
          have H2 := Fact.mk HR
          have G2 := Fact.mk hg
          clear HR hg
          rw [HO.out]
          clear c0 c1 c2 c3 c4 d0 d1 d2 d3 d4 d5 d6 d7 d8 d9 g0 g1 g2 g3 g4 g5 g6 g7 g8 g9
          obtain ⟨vs, c0, c1, c2, c3, c4, d0, d1, d2, d3, d4, d5, d6, d7, d8, d9, g0, g1, g2, g3, g4, g5, g6, g7, g8, g9⟩ :=  H2.out.facts
          have hgt : (goB b now x).going = true := rfl
          rw [hgt] at d4
          clear hgt
          go_wp2_with fail
          go_end0
          exact ⟨rfl, by rw [show pulseB b true false now x = goB b now x by simp [pulseB, pulseA, pulseC, pulseE, runOn, goB, HG.out, HO.out]]; exact H2.out, G2.out⟩
    | false =>
      cases ho : overB b now x with
      | true =>
        have HO := Fact.mk ho
        clear ho
        cases hon : onB ins 0 with
        | true =>
          have HON := Fact.mk hon
          clear hon
          go_enter Try.func163, Try.ntmps163
          go_wp2_with fail
          refine (rgoes_any _ R B ins now _ fall b x H.out hi HX.out n1 n2 F1.out F2.out).mono ?_
          rintro e w2 ⟨rfl, HR, hg⟩
          have H2 := Fact.mk HR
          have G2 := Fact.mk hg
          clear HR hg
          rw [HO.out]
          clear c0 c1 c2 c3 c4 d0 d1 d2 d3 d4 d5 d6 d7 d8 d9 g0 g1 g2 g3 g4 g5 g6 g7 g8 g9
          obtain ⟨vs, c0, c1, c2, c3, c4, d0, d1, d2, d3, d4, d5, d6, d7, d8, d9, g0, g1, g2, g3, g4, g5, g6, g7, g8, g9⟩ :=  H2.out.facts
          have hgt : (goB b now x).going = true := rfl
          rw [hgt] at d4
          clear hgt
          go_wp2_with fail
          refine (stops_any _ R B ins now _ fall _ H2.out).mono ?_
          rintro e w3 ⟨rfl, HR, hg⟩
          have H3 := Fact.mk HR
          have G3 := Fact.mk hg
          clear HR hg
          clear c0 c1 c2 c3 c4 d0 d1 d2 d3 d4 d5 d6 d7 d8 d9 g0 g1 g2 g3 g4 g5 g6 g7 g8 g9
          obtain ⟨vs, c0, c1, c2, c3, c4, d0, d1, d2, d3, d4, d5, d6, d7, d8, d9, g0, g1, g2, g3, g4, g5, g6, g7, g8, g9⟩ :=  H3.out.facts
          have hgt : (stopB (goB b now x)).going = false := rfl
          rw [hgt] at d4
          clear hgt
          have R3 := H3.out.next (grown_set w3 B 8 (.bool false)) (b' := { stopB (goB b now x) with q := false }) (set10_8 H3.out.blk)
          have HR3 := Fact.mk R3
          clear R3
          go_wp2_with (go_at_call 159; refine (on_any _ R B ins now _ fall _ HR3.out 0 hi0).mono ?_; rintro e w' ⟨rfl, rfl⟩; rw [HON.out])
          go_end0
          exact ⟨rfl, by rw [show pulseB b false true now x = { stopB (goB b now x) with q := false } by simp [pulseB, pulseA, pulseC, pulseE, runOn, goB, stopB, HG.out, HO.out]]; exact HR3.out, grown_trans G2.out (grown_trans G3.out (grown_set _ B 8 _))⟩
        | false =>
          have HON := Fact.mk hon
          clear hon
          go_enter Try.func163, Try.ntmps163
          go_wp2_with fail
          refine (rgoes_any _ R B ins now _ fall b x H.out hi HX.out n1 n2 F1.out F2.out).mono ?_
          rintro e w2 ⟨rfl, HR, hg⟩
          have H2 := Fact.mk HR
          have G2 := Fact.mk hg
          clear HR hg
          rw [HO.out]
          clear c0 c1 c2 c3 c4 d0 d1 d2 d3 d4 d5 d6 d7 d8 d9 g0 g1 g2 g3 g4 g5 g6 g7 g8 g9
          obtain ⟨vs, c0, c1, c2, c3, c4, d0, d1, d2, d3, d4, d5, d6, d7, d8, d9, g0, g1, g2, g3, g4, g5, g6, g7, g8, g9⟩ :=  H2.out.facts
          have hgt : (goB b now x).going = true := rfl
          rw [hgt] at d4
          clear hgt
          go_wp2_with fail
          refine (stops_any _ R B ins now _ fall _ H2.out).mono ?_
          rintro e w3 ⟨rfl, HR, hg⟩
          have H3 := Fact.mk HR
          have G3 := Fact.mk hg
          clear HR hg
          clear c0 c1 c2 c3 c4 d0 d1 d2 d3 d4 d5 d6 d7 d8 d9 g0 g1 g2 g3 g4 g5 g6 g7 g8 g9
          obtain ⟨vs, c0, c1, c2, c3, c4, d0, d1, d2, d3, d4, d5, d6, d7, d8, d9, g0, g1, g2, g3, g4, g5, g6, g7, g8, g9⟩ :=  H3.out.facts
          have hgt : (stopB (goB b now x)).going = false := rfl
          rw [hgt] at d4
          clear hgt
          have R3 := H3.out.next (grown_set w3 B 8 (.bool false)) (b' := { stopB (goB b now x) with q := false }) (set10_8 H3.out.blk)
          have HR3 := Fact.mk R3
          clear R3
          go_wp2_with (go_at_call 159; refine (on_any _ R B ins now _ fall _ HR3.out 0 hi0).mono ?_; rintro e w' ⟨rfl, rfl⟩; rw [HON.out])
          go_end0
          exact H3.out.set (grown_trans (grown_set w3 B 8 (.bool false)) (grown_set _ B 6 _)) (set10_6 (set10_8 H3.out.blk)) (grown_trans G2.out G3.out) (b' := { stopB (goB b now x) with q := false, et := 0 }) (by simp [pulseB, pulseA, pulseC, pulseE, runOn, goB, stopB, HG.out, HO.out])
      | false =>
        have HO := Fact.mk ho
        clear ho
        cases hon : onB ins 0 with
        | true =>
          have HON := Fact.mk hon
          clear hon
          go_enter Try.func163, Try.ntmps163
          go_wp2_with fail
          refine (rgoes_any _ R B ins now _ fall b x H.out hi HX.out n1 n2 F1.out F2.out).mono ?_
          rintro e w2 ⟨rfl, HR, hg⟩
          have H2 := Fact.mk HR
          have G2 := Fact.mk hg
          clear HR hg
          rw [HO.out]
          clear c0 c1 c2 c3 c4 d0 d1 d2 d3 d4 d5 d6 d7 d8 d9 g0 g1 g2 g3 g4 g5 g6 g7 g8 g9
          obtain ⟨vs, c0, c1, c2, c3, c4, d0, d1, d2, d3, d4, d5, d6, d7, d8, d9, g0, g1, g2, g3, g4, g5, g6, g7, g8, g9⟩ :=  H2.out.facts
          have hgt : (goB b now x).going = true := rfl
          rw [hgt] at d4
          clear hgt
          go_wp2_with fail
          go_end0
          exact ⟨rfl, by rw [show pulseB b false true now x = goB b now x by simp [pulseB, pulseA, pulseC, pulseE, runOn, goB, HG.out, HO.out]]; exact H2.out, G2.out⟩
        | false =>
          have HON := Fact.mk hon
          clear hon
          go_enter Try.func163, Try.ntmps163
          go_wp2_with fail
          refine (rgoes_any _ R B ins now _ fall b x H.out hi HX.out n1 n2 F1.out F2.out).mono ?_
          rintro e w2 ⟨rfl, HR, hg⟩
          have H2 := Fact.mk HR
          have G2 := Fact.mk hg
          clear HR hg
          rw [HO.out]
          clear c0 c1 c2 c3 c4 d0 d1 d2 d3 d4 d5 d6 d7 d8 d9 g0 g1 g2 g3 g4 g5 g6 g7 g8 g9
          obtain ⟨vs, c0, c1, c2, c3, c4, d0, d1, d2, d3, d4, d5, d6, d7, d8, d9, g0, g1, g2, g3, g4, g5, g6, g7, g8, g9⟩ :=  H2.out.facts
          have hgt : (goB b now x).going = true := rfl
          rw [hgt] at d4
          clear hgt
          go_wp2_with fail
          go_end0
          exact ⟨rfl, by rw [show pulseB b false false now x = goB b now x by simp [pulseB, pulseA, pulseC, pulseE, runOn, goB, HG.out, HO.out]]; exact H2.out, G2.out⟩
  | false =>
    rw [hg] at d4
    have HG := Fact.mk hg
    clear hg
    cases rise with
    | true =>
      cases ho : overB { b with going := true, frm := now, q := true } now x with
      | true =>
        have HO := Fact.mk ho
        clear ho
        cases hon : onB ins 0 with
        | true =>
          have HON := Fact.mk hon
          clear hon
          have RA := H.out.next (grown_trans (grown_set w B 4 (.bool true)) (grown_trans (grown_set _ B 5 (.int .i64 now)) (grown_set _ B 8 (.bool true)))) (b' := { b with going := true, frm := now, q := true }) (set10_8 (set10_5 (set10_4 H.out.blk)))
          have HA := Fact.mk RA
          have GA := Fact.mk (grown_trans (grown_set w B 4 (.bool true)) (grown_trans (grown_set _ B 5 (.int .i64 now)) (grown_set _ B 8 (.bool true))))
          clear RA
          go_enter Try.func163, Try.ntmps163
          go_wp2_with fail
          refine (rgoes_any _ R B ins now _ fall { b with going := true, frm := now, q := true } x HA.out hi HX.out n1 n2 n1 n2).mono ?_
          rintro e w2 ⟨rfl, HR, hg⟩
          have H2 := Fact.mk HR
          have G2 := Fact.mk hg
          clear HR hg
          rw [HO.out]
          clear c0 c1 c2 c3 c4 d0 d1 d2 d3 d4 d5 d6 d7 d8 d9 g0 g1 g2 g3 g4 g5 g6 g7 g8 g9
          obtain ⟨vs, c0, c1, c2, c3, c4, d0, d1, d2, d3, d4, d5, d6, d7, d8, d9, g0, g1, g2, g3, g4, g5, g6, g7, g8, g9⟩ :=  H2.out.facts
          have hgt : (goB { b with going := true, frm := now, q := true } now x).going = true := rfl
          rw [hgt] at d4
          clear hgt
          go_wp2_with fail
          refine (stops_any _ R B ins now _ fall _ H2.out).mono ?_
          rintro e w3 ⟨rfl, HR, hg⟩
          have H3 := Fact.mk HR
          have G3 := Fact.mk hg
          clear HR hg
          clear c0 c1 c2 c3 c4 d0 d1 d2 d3 d4 d5 d6 d7 d8 d9 g0 g1 g2 g3 g4 g5 g6 g7 g8 g9
          obtain ⟨vs, c0, c1, c2, c3, c4, d0, d1, d2, d3, d4, d5, d6, d7, d8, d9, g0, g1, g2, g3, g4, g5, g6, g7, g8, g9⟩ :=  H3.out.facts
          have hgt : (stopB (goB { b with going := true, frm := now, q := true } now x)).going = false := rfl
          rw [hgt] at d4
          clear hgt
          have R3 := H3.out.next (grown_set w3 B 8 (.bool false)) (b' := { stopB (goB { b with going := true, frm := now, q := true } now x) with q := false }) (set10_8 H3.out.blk)
          have HR3 := Fact.mk R3
          clear R3
          go_wp2_with (go_at_call 159; refine (on_any _ R B ins now _ fall _ HR3.out 0 hi0).mono ?_; rintro e w' ⟨rfl, rfl⟩; rw [HON.out])
          go_end0
          exact ⟨rfl, by rw [show pulseB b true true now x = { stopB (goB { b with going := true, frm := now, q := true } now x) with q := false } by simp [pulseB, pulseA, pulseC, pulseE, runOn, goB, stopB, HG.out, HO.out]]; exact HR3.out, grown_trans (grown_trans GA.out G2.out) (grown_trans G3.out (grown_set _ B 8 _))⟩
        | false =>
          have HON := Fact.mk hon
          clear hon
          have RA := H.out.next (grown_trans (grown_set w B 4 (.bool true)) (grown_trans (grown_set _ B 5 (.int .i64 now)) (grown_set _ B 8 (.bool true)))) (b' := { b with going := true, frm := now, q := true }) (set10_8 (set10_5 (set10_4 H.out.blk)))
          have HA := Fact.mk RA
          have GA := Fact.mk (grown_trans (grown_set w B 4 (.bool true)) (grown_trans (grown_set _ B 5 (.int .i64 now)) (grown_set _ B 8 (.bool true))))
          clear RA
          go_enter Try.func163, Try.ntmps163
          go_wp2_with fail
          refine (rgoes_any _ R B ins now _ fall { b with going := true, frm := now, q := true } x HA.out hi HX.out n1 n2 n1 n2).mono ?_
          rintro e w2 ⟨rfl, HR, hg⟩
          have H2 := Fact.mk HR
          have G2 := Fact.mk hg
          clear HR hg
          rw [HO.out]
          clear c0 c1 c2 c3 c4 d0 d1 d2 d3 d4 d5 d6 d7 d8 d9 g0 g1 g2 g3 g4 g5 g6 g7 g8 g9
          obtain ⟨vs, c0, c1, c2, c3, c4, d0, d1, d2, d3, d4, d5, d6, d7, d8, d9, g0, g1, g2, g3, g4, g5, g6, g7, g8, g9⟩ :=  H2.out.facts
          have hgt : (goB { b with going := true, frm := now, q := true } now x).going = true := rfl
          rw [hgt] at d4
          clear hgt
          go_wp2_with fail
          refine (stops_any _ R B ins now _ fall _ H2.out).mono ?_
          rintro e w3 ⟨rfl, HR, hg⟩
          have H3 := Fact.mk HR
          have G3 := Fact.mk hg
          clear HR hg
          clear c0 c1 c2 c3 c4 d0 d1 d2 d3 d4 d5 d6 d7 d8 d9 g0 g1 g2 g3 g4 g5 g6 g7 g8 g9
          obtain ⟨vs, c0, c1, c2, c3, c4, d0, d1, d2, d3, d4, d5, d6, d7, d8, d9, g0, g1, g2, g3, g4, g5, g6, g7, g8, g9⟩ :=  H3.out.facts
          have hgt : (stopB (goB { b with going := true, frm := now, q := true } now x)).going = false := rfl
          rw [hgt] at d4
          clear hgt
          have R3 := H3.out.next (grown_set w3 B 8 (.bool false)) (b' := { stopB (goB { b with going := true, frm := now, q := true } now x) with q := false }) (set10_8 H3.out.blk)
          have HR3 := Fact.mk R3
          clear R3
          go_wp2_with (go_at_call 159; refine (on_any _ R B ins now _ fall _ HR3.out 0 hi0).mono ?_; rintro e w' ⟨rfl, rfl⟩; rw [HON.out])
          go_end0
          exact H3.out.set (grown_trans (grown_set w3 B 8 (.bool false)) (grown_set _ B 6 _)) (set10_6 (set10_8 H3.out.blk)) (grown_trans (grown_trans GA.out G2.out) G3.out) (b' := { stopB (goB { b with going := true, frm := now, q := true } now x) with q := false, et := 0 }) (by simp [pulseB, pulseA, pulseC, pulseE, runOn, goB, stopB, HG.out, HO.out])
      | false =>
        have HO := Fact.mk ho
        clear ho
        cases hon : onB ins 0 with
        | true =>
          have HON := Fact.mk hon
          clear hon
          have RA := H.out.next (grown_trans (grown_set w B 4 (.bool true)) (grown_trans (grown_set _ B 5 (.int .i64 now)) (grown_set _ B 8 (.bool true)))) (b' := { b with going := true, frm := now, q := true }) (set10_8 (set10_5 (set10_4 H.out.blk)))
          have HA := Fact.mk RA
          have GA := Fact.mk (grown_trans (grown_set w B 4 (.bool true)) (grown_trans (grown_set _ B 5 (.int .i64 now)) (grown_set _ B 8 (.bool true))))
          clear RA
          go_enter Try.func163, Try.ntmps163
          go_wp2_with fail
          refine (rgoes_any _ R B ins now _ fall { b with going := true, frm := now, q := true } x HA.out hi HX.out n1 n2 n1 n2).mono ?_
          rintro e w2 ⟨rfl, HR, hg⟩
          have H2 := Fact.mk HR
          have G2 := Fact.mk hg
          clear HR hg
          rw [HO.out]
          clear c0 c1 c2 c3 c4 d0 d1 d2 d3 d4 d5 d6 d7 d8 d9 g0 g1 g2 g3 g4 g5 g6 g7 g8 g9
          obtain ⟨vs, c0, c1, c2, c3, c4, d0, d1, d2, d3, d4, d5, d6, d7, d8, d9, g0, g1, g2, g3, g4, g5, g6, g7, g8, g9⟩ :=  H2.out.facts
          have hgt : (goB { b with going := true, frm := now, q := true } now x).going = true := rfl
          rw [hgt] at d4
          clear hgt
          go_wp2_with fail
          go_end0
          exact ⟨rfl, by rw [show pulseB b true true now x = goB { b with going := true, frm := now, q := true } now x by simp [pulseB, pulseA, pulseC, pulseE, runOn, goB, HG.out, HO.out]]; exact H2.out, (grown_trans GA.out G2.out)⟩
        | false =>
          have HON := Fact.mk hon
          clear hon
          have RA := H.out.next (grown_trans (grown_set w B 4 (.bool true)) (grown_trans (grown_set _ B 5 (.int .i64 now)) (grown_set _ B 8 (.bool true)))) (b' := { b with going := true, frm := now, q := true }) (set10_8 (set10_5 (set10_4 H.out.blk)))
          have HA := Fact.mk RA
          have GA := Fact.mk (grown_trans (grown_set w B 4 (.bool true)) (grown_trans (grown_set _ B 5 (.int .i64 now)) (grown_set _ B 8 (.bool true))))
          clear RA
          go_enter Try.func163, Try.ntmps163
          go_wp2_with fail
          refine (rgoes_any _ R B ins now _ fall { b with going := true, frm := now, q := true } x HA.out hi HX.out n1 n2 n1 n2).mono ?_
          rintro e w2 ⟨rfl, HR, hg⟩
          have H2 := Fact.mk HR
          have G2 := Fact.mk hg
          clear HR hg
          rw [HO.out]
          clear c0 c1 c2 c3 c4 d0 d1 d2 d3 d4 d5 d6 d7 d8 d9 g0 g1 g2 g3 g4 g5 g6 g7 g8 g9
          obtain ⟨vs, c0, c1, c2, c3, c4, d0, d1, d2, d3, d4, d5, d6, d7, d8, d9, g0, g1, g2, g3, g4, g5, g6, g7, g8, g9⟩ :=  H2.out.facts
          have hgt : (goB { b with going := true, frm := now, q := true } now x).going = true := rfl
          rw [hgt] at d4
          clear hgt
          go_wp2_with fail
          go_end0
          exact ⟨rfl, by rw [show pulseB b true false now x = goB { b with going := true, frm := now, q := true } now x by simp [pulseB, pulseA, pulseC, pulseE, runOn, goB, HG.out, HO.out]]; exact H2.out, (grown_trans GA.out G2.out)⟩
    | false =>
      cases hon : onB ins 0 with
      | true =>
        have HON := Fact.mk hon
        clear hon
        go_enter Try.func163, Try.ntmps163
        go_wp2_with (go_at_call 159; refine (on_any _ R B ins now _ fall _ H.out 0 hi0).mono ?_; rintro e w' ⟨rfl, rfl⟩; rw [HON.out])
        go_end0
        exact ⟨rfl, by rw [show pulseB b false true now x = b by simp [pulseB, pulseA, pulseC, pulseE, HG.out]]; exact H.out, grown_refl _ _⟩
      | false =>
        have HON := Fact.mk hon
        clear hon
        go_enter Try.func163, Try.ntmps163
        go_wp2_with (go_at_call 159; refine (on_any _ R B ins now _ fall _ H.out 0 hi0).mono ?_; rintro e w' ⟨rfl, rfl⟩; rw [HON.out])
        go_end0
        exact H.out.set (grown_set w B 6 _) (set10_6 H.out.blk) (grown_refl _ _) (b' := { b with et := 0 }) (by simp [pulseB, pulseA, pulseC, pulseE, HG.out])
set_option maxRecDepth 100000 in
set_option maxHeartbeats 1000000 in
theorem timer_3 (w : World) (R B : Nat) (ins : List Int) (now : Int) (rise fall : Bool) (b : GBlock) (x : Int) (h : RunSt w R B ins now rise fall b) (hi : 1 < ins.length) (hx : ins.getD 1 0 = x) (n1 : 0 ≤ now) (n2 : now ≤ 1125899906842624) (f1 : 0 ≤ b.frm) (f2 : b.frm ≤ 1125899906842624) (hk : b.kind = 3) :
    Calls Try.prog 157 #[.pointer (some ⟨R, 0, none⟩)] w (RunPost w R B ins now rise fall (timerB b rise (onB ins 0) now x) (.tuple #[])) := by
  have H := Fact.mk h
  have HX := Fact.mk hx
  have hi0 : 0 < ins.length := by omega
  clear h hx
  obtain ⟨vs, c0, c1, c2, c3, c4, d0, d1, d2, d3, d4, d5, d6, d7, d8, d9, g0, g1, g2, g3, g4, g5, g6, g7, g8, g9⟩ :=  H.out.facts
  rw [hk] at d0
  have F1 := Fact.mk f1
  have F2 := Fact.mk f2
  have e : timerB b rise (onB ins 0) now x = pulseB b rise (onB ins 0) now x := by simp [timerB, hk]
  rw [e]
  clear e hk
  go_enter Try.func157, Try.ntmps157
  go_wp2_with fail
  refine (pulse_any _ R B ins now rise fall b x H.out hi HX.out n1 n2 F1.out F2.out).mono ?_
  rintro e w2 ⟨rfl, HR, hg⟩
  have H2 := Fact.mk HR
  have G2 := Fact.mk hg
  clear HR hg
  go_wp2_with fail
  go_end0
  exact ⟨rfl, H2.out, G2.out⟩
end Go.Proofs.Ytiogpainajokkaa

