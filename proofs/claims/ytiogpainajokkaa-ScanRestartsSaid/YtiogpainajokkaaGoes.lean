/- Contract of checker.goes. -/
import Derived.Test.YtiogpainajokkaaChkM
namespace Go.Proofs.Ytiogpainajokkaa
open Go.RowKit
/-- May one go on there? If so, it is told. -/
def GoesPost (w : World) (S : Nat) (ss : List GSpot) (k : Nat) (st : List Int) (n : Int) (e : Ending) (w' : World) : Prop := e = .returned (.bool (goesOk ss k st)) ∧ Places w' S (if goesOk ss k st = true then goesTo ss k st n else ss) ∧ w.grownBy w' (some S)
theorem goes_no {w : World} {S : Nat} {ss : List GSpot} {k : Nat} {st : List Int} {n : Int} (hp : Places w S ss) (h1 : (spotAt ss k).reached = true) (h2 : decide ((spotAt ss k).stack = st) = false) (q : Nat) : GoesPost w S ss k st n (.returned (.bool false)) (w.drewN q) := by
  have e : goesOk ss k st = false := by unfold goesOk; rw [h1, h2]; rfl
  unfold GoesPost
  rw [e]
  exact ⟨rfl, hp.below ⟨rfl, rfl, rfl, Nat.le_refl _, fun _ _ => rfl⟩, ⟨rfl, rfl, rfl, Nat.le_refl _, fun _ _ _ => rfl⟩⟩
theorem below_d8 (w : World) : Below w.heap.size w w.drew := ⟨rfl, rfl, rfl, Nat.le_refl _, fun _ _ => rfl⟩
theorem below_dn8 (w : World) (n : Nat) : Below w.heap.size w (w.drewN n) := ⟨rfl, rfl, rfl, Nat.le_refl _, fun _ _ => rfl⟩
theorem goes_yes {w W4 : World} {S : Nat} {ss : List GSpot} {k : Nat} {st : List Int} {n mx : Int} {v : Value} (_ : Places w S ss) (hp : Places W4 S ss) (hk : k < ss.length) (hg : w.grownBy W4 (some S)) (ok : goesOk ss k st = true) (hv : Rd oneU8 1 W4 v st) (hne : v.ownBlock ≠ some S) (hm : max (spotAt ss k).steps n = mx) :
    GoesPost w S ss k st n (.returned (.bool true)) (((W4.setCell ⟨S, k * 3, none⟩ (.bool true)).setCell ⟨S, k * 3 + 1, none⟩ v).setCell ⟨S, k * 3 + 2, none⟩ (.int .i64 mx)) := by
  obtain ⟨h1, h2⟩ := hp.put k hk st mx v hv hne
  unfold GoesPost
  rw [ok, if_pos rfl]
  refine ⟨rfl, ?_, grown_trans hg h2⟩
  unfold goesTo
  rw [hm]
  exact h1
set_option maxRecDepth 100000 in
set_option maxHeartbeats 4000000 in
theorem goes_any (w0 w : World) (X S : Nat) (c : GCode) (vs bs is : Value) (ss : List GSpot) (k : Nat) (sv : Value) (st : List Int) (n : Int) (hC : ChkSt w0 w X S c vs bs is ss) (hk : k < ss.length) (hs : Rd oneU8 1 w sv st) (hl : st.length ≤ 100000) (_hm : ss.length ≤ 100000) :
    Calls Try.prog 123 #[.pointer (some ⟨X, 0, none⟩), .int .i64 (k : Int), sv, .int .i64 n] w (GoesPost w S ss k st n) := by
  obtain ⟨-, -, -, -, k4⟩ := hC.chk.cells
  obtain ⟨v, c0, c1, c2, hr, hne, f0, f1, f2⟩ := hC.pl.at k hk
  have HS := Fact.mk hs
  have HR := Fact.mk hr
  have HC := Fact.mk hC
  have hS := hC.pl.lt
  have hk' : (k : Int) < (ss.length : Int) := by omega
  obtain ⟨A, a0, rfl⟩ : ∃ A a0, sv = .slice A st.length a0 := by
    obtain ⟨_, A, a0, e, _⟩ := hs
    exact ⟨A, a0, e⟩
  obtain ⟨B, b0, rfl⟩ : ∃ B b0, v = .slice B (spotAt ss k).stack.length b0 := by
    obtain ⟨_, A, a0, e, _⟩ := hr
    exact ⟨A, a0, e⟩
  have NE := Fact.mk hne
  have HK := Fact.mk hk
  clear hs hr hC hne
  have heq := eq8_any w _ _ _ _ HR.out HS.out
  obtain ⟨r, hre⟩ : ∃ r, decide ((spotAt ss k).stack = st) = r := ⟨_, rfl⟩
  obtain ⟨rc, hrc⟩ : ∃ rc, (spotAt ss k).reached = rc := ⟨_, rfl⟩
  rw [hre] at heq
  rw [hrc] at c0
  have RE := Fact.mk hre
  have RC := Fact.mk hrc
  have EQ := Fact.mk heq
  obtain ⟨m, hmx⟩ : ∃ m, (spotAt ss k).steps = m := ⟨_, rfl⟩
  rw [hmx] at c2
  have MX := Fact.mk hmx
  clear hre hrc heq hmx
  cases rc with
  | false =>
    go_enter Try.func123, Try.ntmps123
    go_wp2_with fail
    by_cases hmn : m < n
    · have hmn2 : m ≤ n := by omega
      have HMX : Fact (max m n = n) := ⟨by omega⟩
      go_region_with (go_at_call 122; refine (clone_any _ _ st hl (HS.out.below (below_d8 w))).mono ?_; rintro e W4 ⟨v4, rfl, ho, hb⟩; obtain ⟨A4, a4, rfl⟩ := ho.slice2; have O4 := Fact.mk ho; have HB4 := Fact.mk ((below_d8 w).trans (hb.mono (Nat.le_refl _))); have hp4 := HC.out.pl.below HB4.out; obtain ⟨v5, g0, g1, g2, -, -, i0, i1, i2⟩ := hp4.at k HK.out; rw [MX.out] at g2; have P4 := Fact.mk hp4; have hS4 := hp4.lt; clear ho hb hp4)
      all_goals go_wp2
      all_goals go_ret
      all_goals exact goes_yes HC.out.pl P4.out HK.out (grown_below HB4.out _) (by unfold goesOk; rw [RC.out]; rfl) (O4.out.rd oneU8_len) (fun e => absurd (World.ownsRow.lt O4.out _ e).1 (Nat.not_le_of_lt hS)) (by rw [MX.out]; exact HMX.out)
    · have hmn2 : n ≤ m := by omega
      have HMX : Fact (max m n = m) := ⟨by omega⟩
      go_region_with (go_at_call 122; refine (clone_any _ _ st hl (HS.out.below (below_d8 w))).mono ?_; rintro e W4 ⟨v4, rfl, ho, hb⟩; obtain ⟨A4, a4, rfl⟩ := ho.slice2; have O4 := Fact.mk ho; have HB4 := Fact.mk ((below_d8 w).trans (hb.mono (Nat.le_refl _))); have hp4 := HC.out.pl.below HB4.out; obtain ⟨v5, g0, g1, g2, -, -, i0, i1, i2⟩ := hp4.at k HK.out; rw [MX.out] at g2; have P4 := Fact.mk hp4; have hS4 := hp4.lt; clear ho hb hp4)
      all_goals go_wp2
      all_goals go_ret
      all_goals exact goes_yes HC.out.pl P4.out HK.out (grown_below HB4.out _) (by unfold goesOk; rw [RC.out]; rfl) (O4.out.rd oneU8_len) (fun e => absurd (World.ownsRow.lt O4.out _ e).1 (Nat.not_le_of_lt hS)) (by rw [MX.out]; exact HMX.out)
  | true =>
    cases r with
    | false =>
      go_enter Try.func123, Try.ntmps123
      go_wp2_with fail
      refine EQ.out.mono ?_
      rintro e W ⟨rfl, q, rfl⟩
      go_wp2
      go_ret
      exact goes_no HC.out.pl RC.out RE.out q
    | true =>
      go_enter Try.func123, Try.ntmps123
      go_wp2_with fail
      refine EQ.out.mono ?_
      rintro e W ⟨rfl, q, rfl⟩
      go_wp2_with fail
      by_cases hmn : m < n
      · have hmn2 : m ≤ n := by omega
        have HMX : Fact (max m n = n) := ⟨by omega⟩
        go_region_with (go_at_call 122; refine (clone_any _ _ st hl (HS.out.below (below_dn8 w (q + 1)))).mono ?_; rintro e W4 ⟨v4, rfl, ho, hb⟩; obtain ⟨A4, a4, rfl⟩ := ho.slice2; have O4 := Fact.mk ho; have HB4 := Fact.mk ((below_dn8 w (q + 1)).trans (hb.mono (Nat.le_refl _))); have hp4 := HC.out.pl.below HB4.out; obtain ⟨v5, g0, g1, g2, -, -, i0, i1, i2⟩ := hp4.at k HK.out; rw [MX.out] at g2; have P4 := Fact.mk hp4; have hS4 := hp4.lt; clear ho hb hp4)
        all_goals go_wp2
        all_goals go_ret
        all_goals exact goes_yes HC.out.pl P4.out HK.out (grown_below HB4.out _) (by unfold goesOk; rw [RC.out, RE.out]; rfl) (O4.out.rd oneU8_len) (fun e => absurd (World.ownsRow.lt O4.out _ e).1 (Nat.not_le_of_lt hS)) (by rw [MX.out]; exact HMX.out)
      · have hmn2 : n ≤ m := by omega
        have HMX : Fact (max m n = m) := ⟨by omega⟩
        go_region_with (go_at_call 122; refine (clone_any _ _ st hl (HS.out.below (below_dn8 w (q + 1)))).mono ?_; rintro e W4 ⟨v4, rfl, ho, hb⟩; obtain ⟨A4, a4, rfl⟩ := ho.slice2; have O4 := Fact.mk ho; have HB4 := Fact.mk ((below_dn8 w (q + 1)).trans (hb.mono (Nat.le_refl _))); have hp4 := HC.out.pl.below HB4.out; obtain ⟨v5, g0, g1, g2, -, -, i0, i1, i2⟩ := hp4.at k HK.out; rw [MX.out] at g2; have P4 := Fact.mk hp4; have hS4 := hp4.lt; clear ho hb hp4)
        all_goals go_wp2
        all_goals go_ret
        all_goals exact goes_yes HC.out.pl P4.out HK.out (grown_below HB4.out _) (by unfold goesOk; rw [RC.out, RE.out]; rfl) (O4.out.rd oneU8_len) (fun e => absurd (World.ownsRow.lt O4.out _ e).1 (Nat.not_le_of_lt hS)) (by rw [MX.out]; exact HMX.out)
end Go.Proofs.Ytiogpainajokkaa

