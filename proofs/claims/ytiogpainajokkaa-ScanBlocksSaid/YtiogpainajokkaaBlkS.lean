/- Plain: programs that run a counter once or twice. -/
import Derived.Test.YtiogpainajokkaaScP
namespace Go.Proofs.Ytiogpainajokkaa
open Go.RowKit
def bk1 : GCode := ⟨⟨#[112]⟩, [⟨⟨#[99, 117]⟩, 1, 1, 0⟩, ⟨⟨#[114]⟩, 1, 1, 0⟩, ⟨⟨#[113]⟩, 2, 1, 0⟩, ⟨⟨#[99, 118]⟩, 2, 4, 0⟩], [4], [⟨2, 0, 0, 0⟩, ⟨2, 0, 1, 0⟩, ⟨1, 4, 0, 3⟩, ⟨20, 0, 0, 0⟩, ⟨21, 0, 0, 0⟩, ⟨3, 0, 2, 0⟩, ⟨21, 0, 0, 1⟩, ⟨3, 0, 3, 0⟩]⟩
def bk2 : GCode := ⟨⟨#[112]⟩, [⟨⟨#[99, 117]⟩, 1, 1, 0⟩, ⟨⟨#[114]⟩, 1, 1, 0⟩, ⟨⟨#[113]⟩, 2, 1, 0⟩, ⟨⟨#[99, 118]⟩, 2, 4, 0⟩], [4], [⟨2, 0, 0, 0⟩, ⟨2, 0, 1, 0⟩, ⟨1, 4, 0, 3⟩, ⟨20, 0, 0, 0⟩, ⟨1, 1, 0, 0⟩, ⟨2, 0, 1, 0⟩, ⟨1, 4, 0, 3⟩, ⟨20, 0, 0, 0⟩, ⟨21, 0, 0, 0⟩, ⟨3, 0, 2, 0⟩, ⟨21, 0, 0, 1⟩, ⟨3, 0, 3, 0⟩]⟩
def bkPg (tw : Bool) : GCode := if tw = true then bk2 else bk1
theorem bk_check (tw : Bool) : (spotsB (bkPg tw)).2.2 = 0 ∧ checkB (bkPg tw) 20 = 0 := by
  cases tw
  · exact ⟨by kernel_rfl, by kernel_rfl⟩
  · exact ⟨by kernel_rfl, by kernel_rfl⟩
def cuB (w0 : Bool) (cv : Int) (q : Bool) : GBlock := ⟨4, w0, false, false, false, 0, 0, cv, q, false⟩
theorem right_cu {w0 q : Bool} {cv : Int} (h1 : 0 ≤ cv) (h2 : cv ≤ 1000) : rightBlk (cuB w0 cv q) = true := by
  have a1 : decide (-2147483648 ≤ cv) = true := decide_eq_true (by omega)
  have a2 : decide (cv ≤ 2147483647) = true := decide_eq_true (by omega)
  unfold rightBlk bndB useB cuB
  simp only [a1, a2]
  rfl
theorem may_cu {w0 q : Bool} {cv now : Int} (h1 : 0 ≤ cv) (h2 : cv ≤ 1000) (n1 : 0 ≤ now) (n2 : now ≤ 1000) (a b : Bool) : mayB (cuB w0 cv q) [truthI a, truthI b, 3] now = 0 := by
  have ho : okIns [1, 1, 4] [truthI a, truthI b, 3] = true := by cases a <;> cases b <;> rfl
  have hp : pinsIn (cuB w0 cv q).kind = [1, 1, 4] := rfl
  unfold mayB
  rw [if_pos (right_cu h1 h2), hp, ho, decide_eq_true n1, decide_eq_true (by omega : now ≤ 1125899906842624)]
  rfl
def cvN (w0 a b : Bool) (cv : Int) : Int := if b = true then 0 else if (a && !w0) = true then cv + 1 else cv
theorem cvN_in {w0 a b : Bool} {cv : Int} {m : Int} (h1 : 0 ≤ cv) (h2 : cv ≤ m) : 0 ≤ cvN w0 a b cv ∧ cvN w0 a b cv ≤ m + 1 := by
  unfold cvN
  split
  · omega
  · split <;> omega
theorem run_cu {w0 q : Bool} {cv now : Int} (h1 : 0 ≤ cv) (h2 : cv ≤ 999) (n1 : 0 ≤ now) (n2 : now ≤ 1000) (a b : Bool) :
    (runB (cuB w0 cv q) [truthI a, truthI b, 3] now).1 = cuB a (cvN w0 a b cv) (decide (3 ≤ cvN w0 a b cv)) := by
  have ec : cntC cv 3 b false (a && !w0) false = cvN w0 a b cv := by
    have e1 : stepC cv 1 = cv + 1 := by unfold stepC; omega
    unfold cntC cvN
    rw [e1]
    cases b <;> cases a <;> cases w0 <;> rfl
  unfold runB
  rw [if_pos (may_cu h1 (by omega) n1 n2 a b)]
  have hk : (cuB w0 cv q).kind = 4 ∨ (cuB w0 cv q).kind = 5 ∨ (cuB w0 cv q).kind = 6 := .inl rfl
  unfold stepB
  rw [if_neg (by simp [cuB]), if_pos hk, onB_truth]
  have ez : zeroC (cuB w0 cv q) [truthI a, truthI b, 3] = b := by cases b <;> rfl
  have el : loadC (cuB w0 cv q) [truthI a, truthI b, 3] = false := rfl
  have eu : upC (cuB w0 cv q) (a && !w0) = (a && !w0) := by cases a <;> cases w0 <;> rfl
  have ed : downC (cuB w0 cv q) (a && !w0) [truthI a, truthI b, 3] = false := by cases a <;> cases w0 <;> rfl
  have ew : (cuB w0 cv q).w0 = w0 := rfl
  have ev : (cuB w0 cv q).cv = cv := rfl
  unfold counterB
  rw [ew, ez, el, eu, ed, ev]
  have e3 : [truthI a, truthI b, (3 : Int)].getD ([truthI a, truthI b, (3 : Int)].length - 1) 0 = 3 := rfl
  rw [e3, ec]
  rfl
theorem outs_cu {w0 q : Bool} {cv : Int} (h1 : 0 ≤ cv) (h2 : cv ≤ 1000) : outsB (cuB w0 cv q) = [truthI q, cv] := by
  unfold outsB
  rw [if_pos (right_cu h1 h2)]
  rfl
/-- A state of these programs behind some scans. -/
structure BkOk (s : GPlant) (w0 : Bool) (cv : Int) : Prop where
  v : ∃ a b c d, s.vars = [a, b, c, d] ∧ okIns [1, 1, 1, 4] [a, b, c, d] = true
  b : ∃ q, s.blocks = [cuB w0 cv q]
theorem bk_first (tw : Bool) : BkOk (firstB (bkPg tw)) false 0 := by
  cases tw <;> exact ⟨⟨0, 0, 0, 0, rfl, rfl⟩, ⟨false, rfl⟩⟩
theorem bk_run1 {a b c d now cv : Int} {w0 q : Bool} : mRun bk1 now 9 (mStart ⟨[a, b, c, d], [cuB w0 cv q]⟩) = mRun bk1 now 5 ⟨⟨[a, b, c, d], [(runB (cuB w0 cv q) [a, b, 3] now).1]⟩, [], 4, 4⟩ := by kernel_rfl
theorem bk_end1 {a b c d now : Int} {B : GBlock} : mRun bk1 now 5 ⟨⟨[a, b, c, d], [B]⟩, [], 4, 4⟩ = (⟨⟨[a, b, (outsB B).getD 0 0, (outsB B).getD 1 0], [B]⟩, [], 8, 8⟩, 0) := by kernel_rfl
theorem bk_run2 {a b c d now cv : Int} {w0 q : Bool} : mRun bk2 now 13 (mStart ⟨[a, b, c, d], [cuB w0 cv q]⟩) = mRun bk2 now 9 ⟨⟨[a, b, c, d], [(runB (cuB w0 cv q) [a, b, 3] now).1]⟩, [], 4, 4⟩ := by kernel_rfl
theorem bk_run3 {a b c d now cv : Int} {w0 q : Bool} : mRun bk2 now 9 ⟨⟨[a, b, c, d], [cuB w0 cv q]⟩, [], 4, 4⟩ = mRun bk2 now 5 ⟨⟨[a, b, c, d], [(runB (cuB w0 cv q) [0, b, 3] now).1]⟩, [], 8, 8⟩ := by kernel_rfl
theorem bk_end2 {a b c d now : Int} {B : GBlock} : mRun bk2 now 5 ⟨⟨[a, b, c, d], [B]⟩, [], 8, 8⟩ = (⟨⟨[a, b, (outsB B).getD 0 0, (outsB B).getD 1 0], [B]⟩, [], 12, 12⟩, 0) := by kernel_rfl
/-- A scan of these programs. -/
theorem bk_scan (tw : Bool) {s : GPlant} {w0 : Bool} {cv now : Int} (hs : BkOk s (!tw && w0) cv) (h1 : 0 ≤ cv) (h2 : cv ≤ 900) (n1 : 0 ≤ now) (n2 : now ≤ 1000) (a b : Bool) :
    ∃ s' n, scanB (bkPg tw) s [truthI a, truthI b] now = (s', [truthI (decide (3 ≤ cvN (!tw && w0) a b cv)), cvN (!tw && w0) a b cv], n, 0) ∧ BkOk s' (!tw && a) (cvN (!tw && w0) a b cv) := by
  obtain ⟨⟨va, vb, vc, vd, ev, hv⟩, ⟨q, eb⟩⟩ := hs
  obtain ⟨vs, bs⟩ := s
  simp only at ev eb
  subst ev eb
  have h0 := (bk_check tw).1
  have hc := cvN_in (w0 := !tw && w0) (a := a) (b := b) h1 h2
  have hp : putB 1 (bkPg tw).vars [va, vb, vc, vd] [truthI a, truthI b] = some [truthI a, truthI b, vc, vd] := by cases tw <;> cases a <;> cases b <;> rfl
  have hf : fitsS (bkPg tw) ⟨[va, vb, vc, vd], [cuB (!tw && w0) cv q]⟩ = true := by
    have e1 : tysOf (bkPg tw) = [1, 1, 1, 4] := by cases tw <;> rfl
    have e2 : (bkPg tw).blocks = [4] := by cases tw <;> rfl
    unfold fitsS
    rw [e1, e2, hv]
    simp only [okBlks, right_cu h1 (by omega : cv ≤ 1000), Bool.and_true, Bool.true_and]
    rfl
  have hn : ¬ (now < 0 ∨ 1125899906842624 < now) := by omega
  have hv3 : okIns [1, 1, 1, 4] [truthI a, truthI b, truthI (decide (3 ≤ cvN (!tw && w0) a b cv)), cvN (!tw && w0) a b cv] = true := by
    have i1 : ∀ x : Bool, inR 1 (truthI x) = true := fun x => by cases x <;> rfl
    have i4 : inR 4 (cvN (!tw && w0) a b cv) = true := by
      have d1 : decide (-2147483648 ≤ cvN (!tw && w0) a b cv) = true := decide_eq_true (by omega)
      have d2 : decide (cvN (!tw && w0) a b cv ≤ 2147483647) = true := decide_eq_true (by omega)
      show (decide (-2147483648 ≤ cvN (!tw && w0) a b cv) && decide (cvN (!tw && w0) a b cv ≤ 2147483647)) = true
      rw [d1, d2]; rfl
    simp only [okIns, i1, i4, Bool.and_self]
  cases tw with
  | false =>
    have hm : mRun (bkPg false) now ((bkPg false).ins.length + 1) (mStart ⟨[truthI a, truthI b, vc, vd], [cuB (!false && w0) cv q]⟩) = (⟨⟨[truthI a, truthI b, truthI (decide (3 ≤ cvN (!false && w0) a b cv)), cvN (!false && w0) a b cv], [cuB a (cvN (!false && w0) a b cv) (decide (3 ≤ cvN (!false && w0) a b cv))]⟩, [], 8, 8⟩, 0) := by
      show mRun bk1 now 9 _ = _
      rw [bk_run1, run_cu h1 (by omega) n1 n2, bk_end1, outs_cu hc.1 (by omega)]
      rfl
    refine ⟨⟨[truthI a, truthI b, truthI (decide (3 ≤ cvN (!false && w0) a b cv)), cvN (!false && w0) a b cv], [cuB a (cvN (!false && w0) a b cv) (decide (3 ≤ cvN (!false && w0) a b cv))]⟩, 8, ?_, ⟨_, _, _, _, rfl, hv3⟩, ⟨_, rfl⟩⟩
    unfold scanB
    rw [if_neg (by rw [h0]; decide), if_neg (by rw [hf]; decide), hp]
    simp only [hm]
    rw [if_neg hn]
    rfl
  | true =>
    have e4 : cvN a false b (cvN false a b cv) = cvN false a b cv := by
      unfold cvN
      cases b <;> cases a <;> rfl
    have hm : mRun (bkPg true) now ((bkPg true).ins.length + 1) (mStart ⟨[truthI a, truthI b, vc, vd], [cuB (!true && w0) cv q]⟩) = (⟨⟨[truthI a, truthI b, truthI (decide (3 ≤ cvN (!true && w0) a b cv)), cvN (!true && w0) a b cv], [cuB false (cvN (!true && w0) a b cv) (decide (3 ≤ cvN (!true && w0) a b cv))]⟩, [], 12, 12⟩, 0) := by
      show mRun bk2 now 13 _ = _
      have e5 := run_cu (w0 := a) (q := decide (3 ≤ cvN false a b cv)) (cv := cvN false a b cv) hc.1 (by have := hc.2; simp only [Bool.not_true, Bool.false_and] at this; omega) n1 n2 false b
      rw [e4] at e5
      have e6 := outs_cu (w0 := false) (q := decide (3 ≤ cvN false a b cv)) (cv := cvN false a b cv) hc.1 (by have := hc.2; simp only [Bool.not_true, Bool.false_and] at this; omega)
      simp only [Bool.not_true, Bool.false_and]
      rw [bk_run2, run_cu h1 (by omega) n1 n2, bk_run3]
      have e7 : truthI false = 0 := rfl
      rw [e7] at e5
      rw [e5, bk_end2, e6]
      rfl
    refine ⟨⟨[truthI a, truthI b, truthI (decide (3 ≤ cvN (!true && w0) a b cv)), cvN (!true && w0) a b cv], [cuB false (cvN (!true && w0) a b cv) (decide (3 ≤ cvN (!true && w0) a b cv))]⟩, 12, ?_, ⟨_, _, _, _, rfl, hv3⟩, ⟨_, rfl⟩⟩
    unfold scanB
    rw [if_neg (by rw [h0]; decide), if_neg (by rw [hf]; decide), hp]
    simp only [hm]
    rw [if_neg hn]
    rfl
end Go.Proofs.Ytiogpainajokkaa

