/- Plain: a program that parts by a truth that was read. -/
import Derived.Test.YtiogpainajokkaaSgnM
namespace Go.Proofs.Ytiogpainajokkaa
open Go.RowKit
def choPg (k x y : Int) : GCode := ⟨⟨#[112]⟩, [⟨⟨#[105, 102]⟩, 1, 1, 0⟩, ⟨⟨#[111, 117, 116]⟩, 2, k, 0⟩], [], [⟨2, 0, 0, 0⟩, ⟨19, 0, 4, 0⟩, ⟨1, k, 0, x⟩, ⟨18, 0, 5, 0⟩, ⟨1, k, 0, y⟩, ⟨3, 0, 1, 0⟩]⟩
theorem cho_zero {k x y : Int} : zeroN (choPg k x y) = choPg k 0 0 := by simp [zeroN, zn, choPg]
theorem cho_closed {k : Int} (hk : k = 2 ∨ k = 3 ∨ k = 4 ∨ k = 5) : rightB (choPg k 0 0) = true ∧ (spotsB (choPg k 0 0)).2.2 = 0 ∧ checkB (choPg k 0 0) 5 = 0 := by
  rcases hk with rfl | rfl | rfl | rfl <;> exact ⟨by kernel_rfl, by kernel_rfl, by kernel_rfl⟩
theorem cho_in {k x y : Int} (hx : inR k x = true) (hy : inR k y = true) : ∀ i ∈ (choPg k x y).ins, i.op = 1 → inR i.t i.n = true := by
  intro i hi h1
  simp only [choPg, List.mem_cons, List.not_mem_nil, or_false] at hi
  rcases hi with rfl | rfl | rfl | rfl | rfl | rfl
  · exact absurd h1 (by decide)
  · exact absurd h1 (by decide)
  · exact hx
  · exact absurd h1 (by decide)
  · exact hy
  · exact absurd h1 (by decide)
theorem cho_check {k x y : Int} (hk : k = 2 ∨ k = 3 ∨ k = 4 ∨ k = 5) (hx : inR k x = true) (hy : inR k y = true) : (spotsB (choPg k x y)).2.2 = 0 ∧ checkB (choPg k x y) 5 = 0 := by
  obtain ⟨a, b, c⟩ := cho_closed hk
  have hz := cho_zero (k := k) (x := x) (y := y)
  rw [zn_spots (by rw [hz]; exact a) (cho_in hx hy), zn_check (by rw [hz]; exact a) (cho_in hx hy), hz]
  exact ⟨b, c⟩
/-- What the program comes to. -/
theorem cho_scan {k x y : Int} (hk : k = 2 ∨ k = 3 ∨ k = 4 ∨ k = 5) (hx : inR k x = true) (hy : inR k y = true) (b : Bool) :
    scanB (choPg k x y) (firstB (choPg k x y)) [truthI b] 0 = (⟨[truthI b, if b = true then x else y], []⟩, [if b = true then x else y], if b = true then 5 else 4, 0) := by
  have h0 := (cho_check hk hx hy).1
  have hf : fitsS (choPg k x y) (firstB (choPg k x y)) = true := by
    rcases hk with rfl | rfl | rfl | rfl <;> rfl
  have hp : putB 1 (choPg k x y).vars (firstB (choPg k x y)).vars [truthI b] = some [truthI b, 0] := by cases b <;> rfl
  have hm : mRun (choPg k x y) 0 7 (mStart ⟨[truthI b, 0], []⟩) = (⟨⟨[truthI b, if b = true then x else y], []⟩, [], 6, if b = true then 5 else 4⟩, 0) := by
    cases b <;> rfl
  unfold scanB
  rw [if_neg (by rw [h0]; decide), if_neg (by rw [hf]; decide), hp]
  have e5 : (choPg k x y).ins.length + 1 = 7 := rfl
  have eb : (firstB (choPg k x y)).blocks = [] := rfl
  simp only [e5, eb, hm]
  cases b <;> rfl
end Go.Proofs.Ytiogpainajokkaa

