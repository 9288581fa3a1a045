/- CheckTypes: the plain law. All signs, all types, told one by one. -/
import Derived.Test.YthiapebodpkamaaAwk14
namespace Go.Proofs.Ythiapebodpkamaa
def typesL (x y z o : Int) : List GIns := if o = 15 then [⟨1, x, 0, 0⟩, ⟨1, y, 0, 0⟩, ⟨15, z, x, 0⟩, ⟨13, x, 0, 0⟩, ⟨17, 0, 0, 0⟩, ⟨22, 0, 0, 0⟩] else [⟨1, x, 0, 0⟩, ⟨1, y, 0, 0⟩, ⟨o, z, 0, 0⟩, ⟨17, 0, 0, 0⟩, ⟨22, 0, 0, 0⟩]
def typesOk (x y z o : Int) : Bool := if o = 15 then decide (y = x) && decide (z = x) else decide (x = z) && decide (y = z)
def typesBad (z o : Int) : Bool := decide (z = 1) && (decide (o = 4) || decide (o = 5) || decide (o = 6) || decide (o = 7) || decide (o = 8) || decide (o = 14))
def typesOne (x y z o : Int) : Bool := if typesBad z o = true then decide (checkB (pg (typesL x y z o)) 9 = 130) else (decide (checkB (pg (typesL x y z o)) 9 = 0) == typesOk x y z o)
def fiveT : List Int := [1, 2, 3, 4, 5]
def signsL : List Int := [4, 5, 6, 7, 8, 9, 10, 11, 13, 14, 15]
theorem types_all : (fiveT.all fun x => fiveT.all fun y => fiveT.all fun z => signsL.all fun o => typesOne x y z o) = true := by kernel_rfl
theorem five_mem {x : Int} (h1 : 1 ≤ x) (h2 : x ≤ 5) : x ∈ fiveT := by
  have : x = 1 ∨ x = 2 ∨ x = 3 ∨ x = 4 ∨ x = 5 := by omega
  rcases this with rfl | rfl | rfl | rfl | rfl <;> decide
theorem types_one {x y z o : Int} (hx : 1 ≤ x ∧ x ≤ 5) (hy : 1 ≤ y ∧ y ≤ 5) (hz : 1 ≤ z ∧ z ≤ 5) (ho : o ∈ signsL) : typesOne x y z o = true :=
  List.all_eq_true.1 (List.all_eq_true.1 (List.all_eq_true.1 (List.all_eq_true.1 types_all x (five_mem hx.1 hx.2)) y (five_mem hy.1 hy.2)) z (five_mem hz.1 hz.2)) o ho
end Go.Proofs.Ythiapebodpkamaa

