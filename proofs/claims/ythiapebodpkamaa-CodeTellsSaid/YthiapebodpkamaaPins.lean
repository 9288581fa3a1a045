/- Contract of code.Pins. -/
import Derived.Test.YthiapebodpkamaaRange
namespace Go.Proofs.Ythiapebodpkamaa
open Go.RowKit
def pinStr (k : Int) : List UInt8 × List UInt8 :=
  if k = 1 ∨ k = 2 ∨ k = 3 then ([98, 117], [98, 117]) else if k = 4 ∨ k = 5 then ([98, 98, 100], [98, 100]) else if k = 6 then ([98, 98, 98, 98, 100], [98, 98, 100])
  else if k = 7 ∨ k = 8 then ([98], [98]) else if k = 9 ∨ k = 10 then ([98, 98], [98]) else if k = 11 then ([98, 98, 98], [100, 98]) else ([], [])
def pinsIn (k : Int) : List Int := typesOf (pinStr k).1
def pinsOut (k : Int) : List Int := typesOf (pinStr k).2
def PinsPost (k : Int) (w : World) (e : Ending) (w' : World) : Prop := ∃ v1 v2, e = .returned (.tuple #[v1, v2]) ∧ Own 22 1 oneU8 w' w.heap.size v1 (pinsIn k) ∧ Own 22 1 oneU8 w' w.heap.size v2 (pinsOut k) ∧ Below w.heap.size w w'
theorem own_of_eq {E : TypeId} {k : Nat} {enc : Int → List Value} {w : World} {b : Nat} {v : Value} {xs ys : List Int} (h : ys = xs) (ho : Own E k enc w b v xs) : Own E k enc w b v ys := h ▸ ho
theorem pins_any (k : Int) (w : World) : Calls Try.prog 33 #[.int .u8 k] w (PinsPost k w) := by
  go_enter Try.func33, Try.ntmps33
  go_wp2_with fail
  all_goals
    refine (types_any _ _ (by decide)).mono ?_
    rintro e w1 ⟨v1, rfl, ho1, hb1⟩
    go_wp2_with fail
    refine (types_any _ _ (by decide)).mono ?_
    rintro e w2 ⟨v2, rfl, ho2, hb2⟩
    go_wp2_with fail
    go_ret2
    refine ⟨v1, v2, rfl, own_of_eq ?_ (ho1.below hb2), own_of_eq ?_ (ho2.lower hb1.size), hb1.trans (hb2.mono hb1.size)⟩ <;> (simp_all [pinsIn, pinsOut, pinStr]; done)
end Go.Proofs.Ythiapebodpkamaa

