/- One place gone over: the place behind the last instruction. -/
import Derived.Test.YthiapebodpkamaaOneA
import Derived.Test.YthiapebodpkamaaGoes
import Derived.Test.YthiapebodpkamaaEff
namespace Go.Proofs.Ythiapebodpkamaa
open Go.RowKit
set_option maxRecDepth 100000 in
set_option maxHeartbeats 2000000 in
theorem one_end (w0 w : World) (X S : Nat) (c : GCode) (vs bs is : Value) (ss : List GSpot) (hC : ChkSt w0 w X S c vs bs is ss) (k : Nat) (hk : k < ss.length) (hn : k = c.ins.length) (_hm : ss.length ≤ 100000) :
    Calls Try.prog 49 #[.pointer (some ⟨X, 0, none⟩), .int .i64 (k : Int)] w (OnePost w0 X S c vs bs is (oneB c ss k)) := by
  have he : oneB c ss k = (ss, if 0 < (spotAt ss k).stack.length then 140 else 0) := by
    unfold oneB
    rw [List.getElem?_eq_none (by omega)]
  rw [he]
  clear he
  obtain ⟨-, -, -, k3, k4⟩ := hC.chk.cells
  obtain ⟨v, c0, c1, c2, hr, hne, -, -, -⟩ := hC.pl.at k hk
  have hS := hC.pl.lt
  have HC := Fact.mk hC
  have hX : X < w.heap.size := (Array.getElem?_eq_some_iff.1 hC.row).1
  obtain ⟨B, b0, rfl⟩ : ∃ B b0, v = .slice B (spotAt ss k).stack.length b0 := by
    obtain ⟨_, A, a0, e, _⟩ := hr
    exact ⟨A, a0, e⟩
  have hk' : (k : Int) < (ss.length : Int) := by omega
  obtain ⟨rc, hrc⟩ : ∃ rc, (spotAt ss k).reached = rc := ⟨_, rfl⟩
  obtain ⟨m, hmx⟩ : ∃ m, (spotAt ss k).steps = m := ⟨_, rfl⟩
  have hi : ∃ A3 c3, is = .slice A3 c.ins.length c3 := by
    obtain ⟨_, A3, c3, e, _⟩ := hC.old.ins
    exact ⟨A3, c3, e⟩
  obtain ⟨A3, c3, rfl⟩ := hi
  rw [← hn] at k3
  obtain ⟨sl, hsl⟩ : ∃ sl, (spotAt ss k).stack.length = sl := ⟨_, rfl⟩
  rw [hsl] at c1 ⊢
  rw [hrc] at c0
  rw [hmx] at c2
  have HB := Fact.mk ((Below.refl w.heap.size w).alloc (Nat.le_refl _) (Obj.cells #[.bool rc, .slice B sl b0, .int .i64 m] 52))
  have hl5 : sl ≤ 9223372036854775807 := by rw [← hsl]; exact hr.1
  clear hr hne hrc hmx hsl hn hC
  by_cases hp : 0 < sl
  · go_enter Try.func49, Try.ntmps49
    go_wp2
    go_ret
    exact ⟨rfl, HC.out.below HB.out⟩
  · have hp0 : sl = 0 := by omega
    subst hp0
    go_enter Try.func49, Try.ntmps49
    go_wp2
    go_ret
    exact ⟨rfl, HC.out.below HB.out⟩
end Go.Proofs.Ythiapebodpkamaa

