/- Timers, plainly: what a run makes of one. -/
import Derived.Test.YtjanofopmmndoaaEdge
namespace Go.Proofs.Ytjanofopmmndoaa
open Go.RowKit
def tmB (k : Int) (was going : Bool) (frm et : Int) (q : Bool) : GBlock := ⟨k, was, false, false, going, frm, et, 0, q, false⟩
structure TmOk (k : Int) (going : Bool) (frm et : Int) : Prop where
  kind : k = 1 ∨ k = 2 ∨ k = 3
  f1 : 0 ≤ frm
  f2 : frm ≤ 1125899906842624
  e1 : 0 ≤ et
  e2 : et ≤ 1125899906842624
  g : going = true ∨ frm = 0
theorem right_tm {k : Int} {was going : Bool} {frm et : Int} {q : Bool} (h : TmOk k going frm et) : rightBlk (tmB k was going frm et q) = true := by
  obtain ⟨hk, f1, f2, e1, e2, hg⟩ := h
  simp [rightBlk, bndB, useB, tmB, f1, f2, e1, e2, hk]
  rcases hg with rfl | rfl <;> simp
theorem truthI_le (x : Bool) : 0 ≤ truthI x ∧ truthI x ≤ 1 := by cases x <;> simp [truthI]
theorem onB_truth (x : Bool) (l : List Int) : onB (truthI x :: l) 0 = x := by cases x <;> rfl
theorem may_tm {k : Int} {was going : Bool} {frm et : Int} {q : Bool} (h : TmOk k going frm et) (x : Bool) {p t : Int} (p1 : 0 ≤ p) (p2 : p ≤ 4294967295) (t1 : 0 ≤ t) (t2 : t ≤ 1125899906842624) : mayB (tmB k was going frm et q) [truthI x, p] t = 0 := by
  have hp : pinsIn (tmB k was going frm et q).kind = [1, 5] := by
    rcases h.kind with rfl | rfl | rfl <;> rfl
  have hx := truthI_le x
  have ho : okIns [1, 5] [truthI x, p] = true := by simp [okIns, inR, rangeOf, hx.1, hx.2, p1, p2]
  unfold mayB
  rw [if_pos (right_tm h), hp, ho]
  simp [t1, t2]
theorem run_tm {k : Int} {was going : Bool} {frm et : Int} {q : Bool} (h : TmOk k going frm et) (x : Bool) {p t : Int} (p1 : 0 ≤ p) (p2 : p ≤ 4294967295) (t1 : 0 ≤ t) (t2 : t ≤ 1125899906842624) :
    runB (tmB k was going frm et q) [truthI x, p] t = ({ timerB (tmB k was going frm et q) (x && !was) x t p with w0 := x }, 0) := by
  unfold runB
  rw [if_pos (may_tm h x p1 p2 t1 t2)]
  have hk : (tmB k was going frm et q).kind = 1 ∨ (tmB k was going frm et q).kind = 2 ∨ (tmB k was going frm et q).kind = 3 := h.kind
  unfold stepB
  rw [if_pos hk, onB_truth]
  rfl
theorem outs_tm {k : Int} {was going : Bool} {frm et : Int} {q : Bool} (h : TmOk k going frm et) : outsB (tmB k was going frm et q) = [truthI q, min et 4294967295] := by
  unfold outsB outsK
  rw [if_pos (right_tm h)]
  exact if_pos h.kind
/-- A timer that is on late, its input 1. -/
theorem run_ton {was going : Bool} {frm et : Int} {q : Bool} (h : TmOk 1 going frm et) {p t : Int} (p1 : 0 ≤ p) (p2 : p ≤ 4294967295) (t1 : 0 ≤ t) (t2 : t ≤ 1125899906842624) :
    runB (tmB 1 was going frm et q) [1, p] t = (tmB 1 true true (if going = true then frm else t) (min (max (t - (if going = true then frm else t)) 0) p) (decide (p ≤ max (t - (if going = true then frm else t)) 0)), 0) :=
  run_tm h true p1 p2 t1 t2
end Go.Proofs.Ytjanofopmmndoaa

namespace Go.Proofs.Ytjanofopmmndoaa
open Go.RowKit
theorem lrun_new {b b' : GBlock} {ins outs : List Int} {now : Int} {w : World} {B : Nat} (hB : BlkAt w B b) (h0 : runB b ins now = (b', 0)) (ho : outsB b' = outs) (hl : ins.length ≤ 100) :
    Calls Try.prog 21 #[.pointer (some ⟨B, 0, none⟩), .int .i64 now, .slice (some ⟨w.heap.size, 0, none⟩) ins.length ins.length] (w.alloc (.cells (ins.flatMap oneI64).toArray 2)) (LrunPost w B b' outs) := by
  have ha := (Below.refl w.heap.size w).alloc (Nat.le_refl _) (.cells (ins.flatMap oneI64).toArray 2)
  have h := lrun_any b ins _ now _ B (hB.below ha) (rd_new oneI64 1 oneI64_len w ins 2 (by omega)) (by rw [h0])
  rw [h0, ho] at h
  exact h.mono fun e w' ⟨v, h1, h2, h3, h4, h5⟩ => ⟨v, h1, h2, h3, grown_trans (World.grownBy_alloc _ _ _) h4, fun k hk => Nat.le_trans ha.size (h5 k hk)⟩
theorem Rd.two64 {w : World} {v : Value} {x y : Int} (h : Rd oneI64 1 w v [x, y]) : ∃ b off c, v = .slice (some ⟨b, off, none⟩) 2 c ∧ w.cell? ⟨b, off, none⟩ = some (.int .i64 x) ∧ w.cell? ⟨b, off + 1, none⟩ = some (.int .i64 y) := by
  obtain ⟨b, off, c, e, h0⟩ := h.at64 0 (by simp)
  obtain ⟨_, _, _, e1, h1⟩ := h.at64 1 (by simp)
  rw [e] at e1
  cases e1
  exact ⟨b, off, c, e, h0, h1⟩
theorem LrunPost.fresh_ne {w : World} {v : Value} {B : Nat} {b : GBlock} (hf : Fresh w v) (hB : BlkAt w B b) : v.ownBlock ≠ some B := fun e => by
  have := hf B e
  have := hB.lt
  omega
end Go.Proofs.Ytjanofopmmndoaa

namespace Go.Proofs.Ytjanofopmmndoaa
open Go.RowKit
def dkB (w0 w1 ran : Bool) (cv : Int) (q : Bool) : GBlock := ⟨11, w0, w1, ran, false, 0, 0, cv, q, false⟩
theorem right_dk {w0 w1 ran q : Bool} {cv : Int} (h1 : -1000 ≤ cv) (h2 : cv ≤ 1000) : rightBlk (dkB w0 w1 ran cv q) = true := by
  have a1 : decide (-2147483648 ≤ cv) = true := decide_eq_true (by omega)
  have a2 : decide (cv ≤ 2147483647) = true := decide_eq_true (by omega)
  unfold rightBlk bndB useB dkB
  simp only [a1, a2]
  rfl
theorem onB_1 (x y : Bool) (l : List Int) : onB (truthI x :: truthI y :: l) 1 = y := by cases y <;> rfl
theorem onB_2 (x y z : Bool) (l : List Int) : onB (truthI x :: truthI y :: truthI z :: l) 2 = z := by cases z <;> rfl
theorem may_dk {w0 w1 ran q : Bool} {cv : Int} (h1 : -1000 ≤ cv) (h2 : cv ≤ 1000) (x y z : Bool) : mayB (dkB w0 w1 ran cv q) [truthI x, truthI y, truthI z] 0 = 0 := by
  have ho : okIns [1, 1, 1] [truthI x, truthI y, truthI z] = true := by cases x <;> cases y <;> cases z <;> rfl
  have hp : pinsIn (dkB w0 w1 ran cv q).kind = [1, 1, 1] := rfl
  unfold mayB
  rw [if_pos (right_dk h1 h2), hp, ho]
  rfl
theorem run_dk {w0 w1 ran q : Bool} {cv : Int} (h1 : -1000 ≤ cv) (h2 : cv ≤ 1000) (x y z : Bool) : runB (dkB w0 w1 ran cv q) [truthI x, truthI y, truthI z] 0 = (dkB x y true (cvD cv z ran (turnOf x y w0 w1)) (qD q z ran (turnOf x y w0 w1)), 0) := by
  unfold runB
  rw [if_pos (may_dk h1 h2 x y z)]
  unfold stepB
  rw [if_neg (by simp [dkB]), if_neg (by simp [dkB]), if_neg (by simp [dkB]), if_neg (by simp [dkB]), if_neg (by simp [dkB]), if_neg (by simp [dkB]), onB_truth, onB_1, onB_2]
  rfl
theorem outs_dk {w0 w1 ran q : Bool} {cv : Int} (h1 : -1000 ≤ cv) (h2 : cv ≤ 1000) : outsB (dkB w0 w1 ran cv q) = [cv, truthI q] := by
  unfold outsB
  rw [if_pos (right_dk h1 h2)]
  rfl
/-- Where the two tracks are at a place of the way around. -/
def tr0 (a : Nat) : Bool := a == 1 || a == 2
def tr1 (a : Nat) : Bool := a == 2 || a == 3
theorem turn_at {a n : Nat} (ha : a < 4) (hn : n < 4) : turnOf (tr0 n) (tr1 n) (tr0 a) (tr1 a) = (n + 4 - a) % 4 := by
  rcases (by omega : a = 0 ∨ a = 1 ∨ a = 2 ∨ a = 3) with rfl | rfl | rfl | rfl <;> rcases (by omega : n = 0 ∨ n = 1 ∨ n = 2 ∨ n = 3) with rfl | rfl | rfl | rfl <;> rfl
end Go.Proofs.Ytjanofopmmndoaa

namespace Go.Proofs.Ytjanofopmmndoaa
open Go.RowKit
def ctB (w0 w1 : Bool) (cv : Int) (q p : Bool) : GBlock := ⟨6, w0, w1, false, false, 0, 0, cv, q, p⟩
theorem right_ct {w0 w1 q p : Bool} {cv : Int} (h1 : -2147483648 ≤ cv) (h2 : cv ≤ 2147483647) : rightBlk (ctB w0 w1 cv q p) = true := by
  have a1 : decide (-2147483648 ≤ cv) = true := decide_eq_true h1
  have a2 : decide (cv ≤ 2147483647) = true := decide_eq_true h2
  unfold rightBlk bndB useB ctB
  simp only [a1, a2]
  rfl
theorem may_ct {w0 w1 q p : Bool} {cv pv : Int} (h1 : -2147483648 ≤ cv) (h2 : cv ≤ 2147483647) (p1 : -2147483648 ≤ pv) (p2 : pv ≤ 2147483647) (a b c d : Bool) : mayB (ctB w0 w1 cv q p) [truthI a, truthI b, truthI c, truthI d, pv] 0 = 0 := by
  have hv : inR 4 pv = true := by simp [inR, rangeOf, p1, p2]
  have ht : ∀ x : Bool, inR 1 (truthI x) = true := fun x => by cases x <;> rfl
  have ho : okIns [1, 1, 1, 1, 4] [truthI a, truthI b, truthI c, truthI d, pv] = true := by
    simp only [okIns, ht, hv, Bool.and_self]
  have hp : pinsIn (ctB w0 w1 cv q p).kind = [1, 1, 1, 1, 4] := rfl
  unfold mayB
  rw [if_pos (right_ct h1 h2), hp, ho]
  rfl
theorem onB_2' (x y z : Bool) (l : List Int) : onB (truthI x :: truthI y :: truthI z :: l) 2 = z := by cases z <;> rfl
theorem onB_3 (x y z u : Bool) (l : List Int) : onB (truthI x :: truthI y :: truthI z :: truthI u :: l) 3 = u := by cases u <;> rfl
theorem run_ct {w0 w1 q p : Bool} {cv pv : Int} (h1 : -2147483648 ≤ cv) (h2 : cv ≤ 2147483647) (p1 : -2147483648 ≤ pv) (p2 : pv ≤ 2147483647) (a b c d : Bool) :
    runB (ctB w0 w1 cv q p) [truthI a, truthI b, truthI c, truthI d, pv] 0 = (ctB a b (cntC cv pv c d (a && !w0) (b && !w1)) (decide (pv ≤ cntC cv pv c d (a && !w0) (b && !w1))) (decide (cntC cv pv c d (a && !w0) (b && !w1) ≤ 0)), 0) := by
  unfold runB
  rw [if_pos (may_ct h1 h2 p1 p2 a b c d)]
  have hk : (ctB w0 w1 cv q p).kind = 4 ∨ (ctB w0 w1 cv q p).kind = 5 ∨ (ctB w0 w1 cv q p).kind = 6 := .inr (.inr rfl)
  unfold stepB
  rw [if_neg (by simp [ctB]), if_pos hk, onB_truth]
  unfold counterB zeroC loadC upC downC qC
  rw [onB_1, onB_2', onB_3]
  have e6 : (ctB w0 w1 cv q p).kind = 6 := rfl
  rw [e6]
  have e5 : ((a && !(ctB w0 w1 cv q p).w0) && !decide ((6 : Int) = 5)) = (a && !w0) := by simp [ctB]
  rw [e5]
  rfl
theorem outs_ct {w0 w1 q p : Bool} {cv : Int} (h1 : -2147483648 ≤ cv) (h2 : cv ≤ 2147483647) : outsB (ctB w0 w1 cv q p) = [truthI q, truthI p, cv] := by
  unfold outsB
  rw [if_pos (right_ct h1 h2)]
  rfl
theorem cntC_in {cv pv : Int} (h1 : -2147483648 ≤ cv) (h2 : cv ≤ 2147483647) (p1 : -2147483648 ≤ pv) (p2 : pv ≤ 2147483647) (z l u d : Bool) : -2147483648 ≤ cntC cv pv z l u d ∧ cntC cv pv z l u d ≤ 2147483647 := by
  unfold cntC stepC
  cases z <;> cases l <;> cases u <;> cases d <;> simp <;> omega
end Go.Proofs.Ytjanofopmmndoaa

namespace Go.Proofs.Ytjanofopmmndoaa
open Go.RowKit
theorem pul_go_over (was x : Bool) (f e : Int) {p nw : Int} (h : p ≤ max (nw - f) 0) (r : Bool) : timerB (tmB 3 was true f e true) r x nw p = tmB 3 was false 0 (if x = true then min (max (nw - f) 0) p else 0) false := by
  have ho : overB (tmB 3 was true f e true) nw p = true := decide_eq_true h
  have e1 : timerB (tmB 3 was true f e true) r x nw p = pulseE (pulseC (pulseA (tmB 3 was true f e true) r nw) nw p) x := rfl
  have e2 : pulseA (tmB 3 was true f e true) r nw = tmB 3 was true f e true := by cases r <;> rfl
  have e3 : pulseC (tmB 3 was true f e true) nw p = runOn (tmB 3 was true f e true) nw p := rfl
  rw [e1, e2, e3]
  unfold runOn
  rw [if_pos ho]
  cases x <;> rfl
theorem pul_go_on (was x : Bool) (f e : Int) {p nw : Int} (h : ¬ p ≤ max (nw - f) 0) (r : Bool) : timerB (tmB 3 was true f e true) r x nw p = tmB 3 was true f (min (max (nw - f) 0) p) true := by
  have ho : ¬ overB (tmB 3 was true f e true) nw p = true := fun hh => h (of_decide_eq_true hh)
  have e1 : timerB (tmB 3 was true f e true) r x nw p = pulseE (pulseC (pulseA (tmB 3 was true f e true) r nw) nw p) x := rfl
  have e2 : pulseA (tmB 3 was true f e true) r nw = tmB 3 was true f e true := by cases r <;> rfl
  have e3 : pulseC (tmB 3 was true f e true) nw p = runOn (tmB 3 was true f e true) nw p := rfl
  rw [e1, e2, e3]
  unfold runOn
  rw [if_neg ho]
  cases x <;> rfl
theorem pul_rise (e : Int) (p nw : Int) : timerB (tmB 3 false false 0 e false) true true nw p = timerB (tmB 3 false true nw e true) false true nw p := rfl
theorem pul_idle (e : Int) (p nw : Int) : timerB (tmB 3 true false 0 e false) false true nw p = tmB 3 true false 0 e false := rfl
theorem pul_idle0 (was : Bool) (e : Int) (p nw : Int) : timerB (tmB 3 was false 0 e false) false false nw p = tmB 3 was false 0 0 false := rfl
theorem on_off (was g q r : Bool) (f e : Int) (p nw : Int) : timerB (tmB 1 was g f e q) r false nw p = tmB 1 was false 0 0 false := rfl
theorem on_on (was g q r : Bool) (f e : Int) (p nw : Int) : timerB (tmB 1 was g f e q) r true nw p = tmB 1 was true (if g = true then f else nw) (min (max (nw - (if g = true then f else nw)) 0) p) (decide (p ≤ max (nw - (if g = true then f else nw)) 0)) := rfl
theorem off_on (was g q r : Bool) (f e : Int) (p nw : Int) : timerB (tmB 2 was g f e q) r true nw p = tmB 2 was false 0 0 true := rfl
theorem off_idle (was g r : Bool) (f e : Int) (p nw : Int) : timerB (tmB 2 was g f e false) r false nw p = tmB 2 was g f e false := rfl
theorem off_over (was g r : Bool) (f e : Int) {p nw : Int} (h : p ≤ max (nw - (if g = true then f else nw)) 0) : timerB (tmB 2 was g f e true) r false nw p = tmB 2 was false 0 (min (max (nw - (if g = true then f else nw)) 0) p) false := by
  have ho : overB (tmB 2 was g f e true) nw p = true := decide_eq_true h
  have e1 : timerB (tmB 2 was g f e true) r false nw p = runOn (tmB 2 was g f e true) nw p := rfl
  rw [e1]
  unfold runOn
  rw [if_pos ho]
  rfl
theorem off_goes (was g r : Bool) (f e : Int) {p nw : Int} (h : ¬ p ≤ max (nw - (if g = true then f else nw)) 0) : timerB (tmB 2 was g f e true) r false nw p = tmB 2 was true (if g = true then f else nw) (min (max (nw - (if g = true then f else nw)) 0) p) true := by
  have ho : ¬ overB (tmB 2 was g f e true) nw p = true := fun hh => h (of_decide_eq_true hh)
  have e1 : timerB (tmB 2 was g f e true) r false nw p = runOn (tmB 2 was g f e true) nw p := rfl
  rw [e1]
  unfold runOn
  rw [if_neg ho]
  rfl
theorem run_step {k : Int} {was g q x g' q' : Bool} {f e f' e' p t : Int} (h : TmOk k g f e) (p1 : 0 ≤ p) (p2 : p ≤ 4294967295) (t1 : 0 ≤ t) (t2 : t ≤ 1125899906842624) (hs : timerB (tmB k was g f e q) (x && !was) x t p = tmB k was g' f' e' q') : runB (tmB k was g f e q) [truthI x, p] t = (tmB k x g' f' e' q', 0) := by
  rw [run_tm h x p1 p2 t1 t2, hs]
  rfl
end Go.Proofs.Ytjanofopmmndoaa

namespace Go.Proofs.Ytjanofopmmndoaa
open Go.RowKit
theorem rightBlk_use {b : GBlock} (h : rightBlk b = true) : useB b = true := by
  simp only [rightBlk, Bool.and_eq_true] at h
  exact h.2
theorem right_tm_inv {b : GBlock} (h : rightBlk b = true) (hk : b.kind = 1 ∨ b.kind = 2 ∨ b.kind = 3) : ∃ w0 g f e q, b = tmB b.kind w0 g f e q ∧ TmOk b.kind g f e := by
  obtain ⟨q1, q2, q3, q4, q5, q6⟩ := rightBlk_bnd h
  have hu := rightBlk_use h
  obtain ⟨kind, w0, w1, ran, going, frm, et, cv, q, p⟩ := b
  unfold useB at hu
  rw [if_pos hk] at hu
  simp only [Bool.and_eq_true, Bool.not_eq_true', Bool.or_eq_true, decide_eq_true_eq] at hu
  obtain ⟨⟨⟨⟨rfl, rfl⟩, hg⟩, rfl⟩, rfl⟩ := hu
  exact ⟨w0, going, frm, et, q, rfl, ⟨hk, q1, q2, q3, q4, hg⟩⟩
theorem tm_step {k : Int} {was g q : Bool} {f e : Int} (h : TmOk k g f e) (r x : Bool) {p t : Int} (p1 : 0 ≤ p) (p2 : p ≤ 4294967295) (t1 : 0 ≤ t) (t2 : t ≤ 1125899906842624) : ∃ g' f' e' q', timerB (tmB k was g f e q) r x t p = tmB k was g' f' e' q' ∧ TmOk k g' f' e' := by
  obtain ⟨hk, f1, f2, e1, e2, hg⟩ := h
  rcases hk with rfl | rfl | rfl
  · cases x
    · exact ⟨_, _, _, _, on_off was g q r f e p t, .inl rfl, by omega, by omega, by omega, by omega, .inr rfl⟩
    · refine ⟨_, _, _, _, on_on was g q r f e p t, .inl rfl, ?_, ?_, by omega, by omega, .inl rfl⟩
      · split <;> omega
      · split <;> omega
  · cases x
    · cases q
      · exact ⟨_, _, _, _, off_idle was g r f e p t, .inr (.inl rfl), f1, f2, e1, e2, hg⟩
      · by_cases ho : p ≤ max (t - (if g = true then f else t)) 0
        · exact ⟨_, _, _, _, off_over was g r f e ho, .inr (.inl rfl), by omega, by omega, by omega, by omega, .inr rfl⟩
        · refine ⟨_, _, _, _, off_goes was g r f e ho, .inr (.inl rfl), ?_, ?_, by omega, by omega, .inl rfl⟩
          · split <;> omega
          · split <;> omega
    · exact ⟨_, _, _, _, off_on was g q r f e p t, .inr (.inl rfl), by omega, by omega, by omega, by omega, .inr rfl⟩
  · -- a pulse
    have hE : ∀ g f e q, (0 : Int) ≤ f → f ≤ 1125899906842624 → (0 : Int) ≤ e → e ≤ 1125899906842624 → (g = true ∨ f = 0) → ∃ g' f' e' q', pulseE (tmB 3 was g f e q) x = tmB 3 was g' f' e' q' ∧ TmOk 3 g' f' e' := by
      intro g f e q h1 h2 h3 h4 h5
      unfold pulseE
      split
      · exact ⟨g, f, 0, q, rfl, .inr (.inr rfl), h1, h2, by omega, by omega, h5⟩
      · exact ⟨g, f, e, q, rfl, .inr (.inr rfl), h1, h2, h3, h4, h5⟩
    have hC : ∀ g f e q, (0 : Int) ≤ f → f ≤ 1125899906842624 → (0 : Int) ≤ e → e ≤ 1125899906842624 → (g = true ∨ f = 0) → ∃ g' f' e' q', pulseC (tmB 3 was g f e q) t p = tmB 3 was g' f' e' q' ∧ (0 : Int) ≤ f' ∧ f' ≤ 1125899906842624 ∧ (0 : Int) ≤ e' ∧ e' ≤ 1125899906842624 ∧ (g' = true ∨ f' = 0) := by
      intro g f e q h1 h2 h3 h4 h5
      cases g
      · exact ⟨false, f, e, q, rfl, h1, h2, h3, h4, h5⟩
      · have e3 : pulseC (tmB 3 was true f e q) t p = runOn (tmB 3 was true f e q) t p := rfl
        rw [e3]
        unfold runOn
        split
        · exact ⟨false, 0, min (max (t - f) 0) p, false, rfl, by omega, by omega, by omega, by omega, .inr rfl⟩
        · exact ⟨true, f, min (max (t - f) 0) p, q, rfl, h1, h2, by omega, by omega, .inl rfl⟩
    have e1' : timerB (tmB 3 was g f e q) r x t p = pulseE (pulseC (pulseA (tmB 3 was g f e q) r t) t p) x := rfl
    rw [e1']
    have hA : ∃ g' f' q', pulseA (tmB 3 was g f e q) r t = tmB 3 was g' f' e q' ∧ (0 : Int) ≤ f' ∧ f' ≤ 1125899906842624 ∧ (g' = true ∨ f' = 0) := by
      unfold pulseA
      split
      · exact ⟨true, t, true, rfl, t1, t2, .inl rfl⟩
      · exact ⟨g, f, q, rfl, f1, f2, hg⟩
    obtain ⟨ga, fa, qa, ha, a1, a2, a3⟩ := hA
    rw [ha]
    obtain ⟨gc, fc, ec, qc, hc, c1, c2, c3, c4, c5⟩ := hC ga fa e qa a1 a2 e1 e2 a3
    rw [hc]
    exact hE gc fc ec qc c1 c2 c3 c4 c5
theorem inR_dint {x : Int} (h : inR 4 x = true) : -2147483648 ≤ x ∧ x ≤ 2147483647 := by
  simp only [inR, Bool.and_eq_true, decide_eq_true_eq] at h
  exact h
theorem inR_udint {x : Int} (h : inR 5 x = true) : 0 ≤ x ∧ x ≤ 4294967295 := by
  simp only [inR, Bool.and_eq_true, decide_eq_true_eq] at h
  exact h
theorem ok2 {t u : Int} {l : List Int} (h : okIns [t, u] l = true) : ∃ a b, l = [a, b] ∧ inR t a = true ∧ inR u b = true := by
  match l, okIns_len h, h with
  | [a, b], _, h =>
    simp only [okIns, Bool.and_true, Bool.and_eq_true] at h
    exact ⟨a, b, rfl, h.1, h.2⟩
theorem ok3 {t u v : Int} {l : List Int} (h : okIns [t, u, v] l = true) : ∃ a b c, l = [a, b, c] ∧ inR v c = true := by
  match l, okIns_len h, h with
  | [a, b, c], _, h =>
    simp only [okIns, Bool.and_true, Bool.and_eq_true] at h
    exact ⟨a, b, c, rfl, h.2.2⟩
theorem ok5 {t u v x y : Int} {l : List Int} (h : okIns [t, u, v, x, y] l = true) : ∃ a b c d e, l = [a, b, c, d, e] ∧ inR y e = true := by
  match l, okIns_len h, h with
  | [a, b, c, d, e], _, h =>
    simp only [okIns, Bool.and_true, Bool.and_eq_true] at h
    exact ⟨a, b, c, d, e, rfl, h.2.2.2.2⟩
theorem bnd_of {b : GBlock} (h : 0 ≤ b.frm ∧ b.frm ≤ 1125899906842624 ∧ 0 ≤ b.et ∧ b.et ≤ 1125899906842624 ∧ -2147483648 ≤ b.cv ∧ b.cv ≤ 2147483647) : bndB b = true := by
  obtain ⟨h1, h2, h3, h4, h5, h6⟩ := h
  simp [bndB, h1, h2, h3, h4, h5, h6]
theorem right_of {b : GBlock} (h : 0 ≤ b.frm ∧ b.frm ≤ 1125899906842624 ∧ 0 ≤ b.et ∧ b.et ≤ 1125899906842624 ∧ -2147483648 ≤ b.cv ∧ b.cv ≤ 2147483647) (hu : useB b = true) : rightBlk b = true := by
  rw [rightBlk, bnd_of h, hu]; rfl
theorem counter_in {b : GBlock} {pv : Int} (r : Bool) (ins : List Int) (h1 : -2147483648 ≤ b.cv) (h2 : b.cv ≤ 2147483647) (p1 : -2147483648 ≤ pv) (p2 : pv ≤ 2147483647) : -2147483648 ≤ (counterB b r ins pv).cv ∧ (counterB b r ins pv).cv ≤ 2147483647 := cntC_in h1 h2 p1 p2 _ _ _ _
theorem cvD_in {cv : Int} (h1 : -2147483648 ≤ cv) (h2 : cv ≤ 2147483647) (z r : Bool) (s : Nat) : -2147483648 ≤ cvD cv z r s ∧ cvD cv z r s ≤ 2147483647 := by
  unfold cvD
  repeat' split
  all_goals omega
theorem right_step {b : GBlock} {ins : List Int} {now : Int} (h : mayB b ins now = 0) : rightBlk (stepB b ins now) = true ∧ (stepB b ins now).kind = b.kind := by
  obtain ⟨hR, n1, n2, hok⟩ := mayB_ok h
  obtain ⟨q1, q2, q3, q4, q5, q6⟩ := rightBlk_bnd hR
  have hu := rightBlk_use hR
  clear h
  by_cases hk : b.kind = 1 ∨ b.kind = 2 ∨ b.kind = 3
  · have hp : pinsIn b.kind = [1, 5] := by rcases hk with h | h | h <;> rw [h] <;> rfl
    rw [hp] at hok
    obtain ⟨x, pt, rfl, hx, hpt⟩ := ok2 hok
    obtain ⟨p1, p2⟩ := inR_udint hpt
    obtain ⟨w0, g, f, e, q, hb, hT⟩ := right_tm_inv hR hk
    obtain ⟨g', f', e', q', hs, hT'⟩ := tm_step (was := w0) (q := q) hT (onB [x, pt] 0 && !b.w0) (onB [x, pt] 0) p1 p2 n1 n2
    rw [← hb] at hs
    have e1 : stepB b [x, pt] now = { timerB b (onB [x, pt] 0 && !b.w0) (onB [x, pt] 0) now pt with w0 := onB [x, pt] 0 } := if_pos hk
    rw [e1, hs]
    exact ⟨right_tm (was := onB [x, pt] 0) (q := q') hT', rfl⟩
  · rcases kind_cases hR with hk1 | hk1 | hk1 | hk1 | hk1 | hk1 | hk1 | hk1 | hk1 | hk1 | hk1
    · exact absurd (.inl hk1) hk
    · exact absurd (.inr (.inl hk1)) hk
    · exact absurd (.inr (.inr hk1)) hk
    all_goals
      rw [hk1] at hok
      obtain ⟨kind, w0, w1, ran, going, frm, et, cv, q, p⟩ := b
      obtain rfl : kind = _ := hk1
      clear hk
    · obtain ⟨a, c, d, rfl, hd⟩ := ok3 hok
      obtain ⟨d1, d2⟩ := inR_dint hd
      have e : stepB ⟨4, w0, w1, ran, going, frm, et, cv, q, p⟩ [a, c, d] now = { counterB ⟨4, w0, w1, ran, going, frm, et, cv, q, p⟩ (onB [a, c, d] 0 && !w0) [a, c, d] d with w0 := onB [a, c, d] 0 } := rfl
      rw [e]
      have hc := counter_in (b := ⟨4, w0, w1, ran, going, frm, et, cv, q, p⟩) (onB [a, c, d] 0 && !w0) [a, c, d] q5 q6 d1 d2
      exact ⟨right_of ⟨q1, q2, q3, q4, hc.1, hc.2⟩ hu, rfl⟩
    · obtain ⟨a, c, d, rfl, hd⟩ := ok3 hok
      obtain ⟨d1, d2⟩ := inR_dint hd
      have e : stepB ⟨5, w0, w1, ran, going, frm, et, cv, q, p⟩ [a, c, d] now = { counterB ⟨5, w0, w1, ran, going, frm, et, cv, q, p⟩ (onB [a, c, d] 0 && !w0) [a, c, d] d with w0 := onB [a, c, d] 0 } := rfl
      rw [e]
      have hc := counter_in (b := ⟨5, w0, w1, ran, going, frm, et, cv, q, p⟩) (onB [a, c, d] 0 && !w0) [a, c, d] q5 q6 d1 d2
      exact ⟨right_of ⟨q1, q2, q3, q4, hc.1, hc.2⟩ hu, rfl⟩
    · obtain ⟨a, c, d, u, v, rfl, hv⟩ := ok5 hok
      obtain ⟨d1, d2⟩ := inR_dint hv
      have e : stepB ⟨6, w0, w1, ran, going, frm, et, cv, q, p⟩ [a, c, d, u, v] now = { counterB ⟨6, w0, w1, ran, going, frm, et, cv, q, p⟩ (onB [a, c, d, u, v] 0 && !w0) [a, c, d, u, v] v with w0 := onB [a, c, d, u, v] 0 } := rfl
      rw [e]
      have hc := counter_in (b := ⟨6, w0, w1, ran, going, frm, et, cv, q, p⟩) (onB [a, c, d, u, v] 0 && !w0) [a, c, d, u, v] q5 q6 d1 d2
      exact ⟨right_of ⟨q1, q2, q3, q4, hc.1, hc.2⟩ hu, rfl⟩
    · exact ⟨right_of ⟨q1, q2, q3, q4, q5, q6⟩ hu, rfl⟩
    · exact ⟨right_of ⟨q1, q2, q3, q4, q5, q6⟩ hu, rfl⟩
    · exact ⟨right_of ⟨q1, q2, q3, q4, q5, q6⟩ hu, rfl⟩
    · exact ⟨right_of ⟨q1, q2, q3, q4, q5, q6⟩ hu, rfl⟩
    · exact ⟨right_of ⟨q1, q2, q3, q4, (cvD_in q5 q6 _ _ _).1, (cvD_in q5 q6 _ _ _).2⟩ hu, rfl⟩
theorem right_run {b : GBlock} (ins : List Int) (now : Int) (h : rightBlk b = true) : rightBlk (runB b ins now).1 = true ∧ (runB b ins now).1.kind = b.kind := by
  unfold runB
  by_cases hm : mayB b ins now = 0
  · rw [if_pos hm]; exact right_step hm
  · rw [if_neg hm]; exact ⟨h, rfl⟩
theorem run_same {b : GBlock} {ins : List Int} {now : Int} (h : (runB b ins now).2 ≠ 0) : (runB b ins now).1 = b := by
  unfold runB at h ⊢
  by_cases hm : mayB b ins now = 0
  · rw [if_pos hm] at h; exact absurd rfl h
  · rw [if_neg hm]
theorem run_wrong {b : GBlock} (ins : List Int) (now : Int) (h : rightBlk b = false) : runB b ins now = (b, 160) := by
  have hm : mayB b ins now = 160 := by simp [mayB, h]
  unfold runB
  rw [hm]; rfl
theorem inR_truth (x : Bool) : inR 1 (truthI x) = true := by cases x <;> rfl
theorem outs_in {b : GBlock} (h : rightBlk b = true) : okIns (pinsOut b.kind) (outsB b) = true := by
  obtain ⟨q1, q2, q3, q4, q5, q6⟩ := rightBlk_bnd h
  have hcv : inR 4 b.cv = true := by
    have h1 : decide ((rangeOf 4).1 ≤ b.cv) = true := decide_eq_true q5
    have h2 : decide (b.cv ≤ (rangeOf 4).2) = true := decide_eq_true q6
    unfold inR
    rw [h1, h2]; rfl
  have het : inR 5 (min b.et 4294967295) = true := by
    have h1 : decide ((rangeOf 5).1 ≤ min b.et 4294967295) = true := decide_eq_true (show 0 ≤ min b.et 4294967295 by omega)
    have h2 : decide (min b.et 4294967295 ≤ (rangeOf 5).2) = true := decide_eq_true (show min b.et 4294967295 ≤ 4294967295 by omega)
    unfold inR
    rw [h1, h2]; rfl
  have e : outsB b = outsK b := if_pos h
  rw [e]
  have hq := inR_truth b.q
  have hp := inR_truth b.p
  rcases kind_cases h with hk | hk | hk | hk | hk | hk | hk | hk | hk | hk | hk
  all_goals
    unfold outsK
    rw [hk]
    simp [show pinsOut 1 = [1, 5] from rfl, show pinsOut 2 = [1, 5] from rfl, show pinsOut 3 = [1, 5] from rfl, show pinsOut 4 = [1, 4] from rfl, show pinsOut 5 = [1, 4] from rfl, show pinsOut 6 = [1, 1, 4] from rfl, show pinsOut 7 = [1] from rfl, show pinsOut 8 = [1] from rfl, show pinsOut 9 = [1] from rfl, show pinsOut 10 = [1] from rfl, show pinsOut 11 = [4, 1] from rfl, okIns, hq, hp, hcv, het]
end Go.Proofs.Ytjanofopmmndoaa

