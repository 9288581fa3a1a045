/- A string's bytes. -/
import Derived.Test.YthiapebodpkamaaGrow
import Derived.Lib.ConvBytes
import Derived.Laws.BytesArg
import Derived.Laws.IdiomStrings
namespace Go.Proofs.Ythiapebodpkamaa
open Go.RowKit
def strB (s : ByteArray) : List Int := s.data.toList.map fun b => (b.toNat : Int)
theorem strB_length (s : ByteArray) : (strB s).length = s.size := by simp [strB]
theorem conv_below (w : World) (e : TypeId) (s : ByteArray) : Below w.heap.size w (Lib.bytesWorld w e s) := by
  refine ⟨?_, ?_, ?_, by rw [Lib.bytesWorld_size]; omega, fun k hk => Lib.bytesWorld_at_old w e s k hk⟩ <;>
    simp [Lib.bytesWorld, World.freeze, World.alloc, World.drew, -World.alloc_eq, -World.drew_eq]
theorem conv_rd (w : World) (e : TypeId) (s : ByteArray) (hs : s.size ≤ 9223372036854775807) : Rd oneU8 1 (Lib.bytesWorld w e s) (.slice (some ⟨w.heap.size, 0, none⟩) s.size (grownCap w s.size 0 e)) (strB s) := by
  refine ⟨by rw [strB_length]; exact hs, _, _, by rw [strB_length], by rw [strB_length]; exact grownCap_ge _ _ _ _, (fun h => by cases h), fun _ => ⟨w.heap.size, 0, rfl, fun j hj i u hu => ?_⟩⟩
  have hj' : j < s.size := by rwa [strB_length] at hj
  match i, hu with
  | 0, hu =>
    simp only [oneU8, List.getElem?_cons_zero, Option.some.injEq] at hu
    subst hu
    have h := Lib.bytesWorld_cell w e s j hj'
    have e1 : (⟨w.heap.size, 0 + j * 1 + 0, none⟩ : Addr) = ⟨w.heap.size, j, none⟩ := by congr 1; omega
    rw [e1, h]
    have hj2 : j < s.data.toList.length := by simpa using hj'
    simp [strB, List.getD, List.getElem?_eq_getElem hj2]
  | i + 1, hu => simp [oneU8] at hu
theorem wpList_conv {P : Program} {w : World} {ops : Array Oper} {rest : List Oper} {o : Oper} {a : Act} {Q : Exit → Act → World → Prop} (hgd : o.guard = none) (x : Operand) (src dst e : TypeId) {d : TypeDesc}
    (hop : o.op = .convert src dst x) (hs : P.underlying src = some d) (hd : P.underlying dst = some (.slice e)) (he : P.underlying e = some (.int .u8)) (s : ByteArray) (hx : a.eval x = .string s) (hsz : s.size ≤ 9223372036854775807)
    (hK : ∀ c w', s.size ≤ c → Below w.heap.size w w' → Rd oneU8 1 w' (.slice (some ⟨w.heap.size, 0, none⟩) s.size c) (strB s) → wpList P ops Q rest (a.put o.dst (.slice (some ⟨w.heap.size, 0, none⟩) s.size c)) w') : wpList P ops Q (o :: rest) a w := by
  refine wpList_plain hgd fun K hK' => ?_
  have hr := Lib.run_convert_string_bytes (P := P) w src dst e s hs hd he
  unfold Oper.wp execOp
  simp only [hop, hx, Sem.run_bind, hr, Result.andThen_ok, Sem.run_pure]
  exact hK' _ _ (hK _ _ (grownCap_ge _ _ _ _) (conv_below w e s) (conv_rd w e s hsz))
theorem conv_back {P : Program} {w : World} {v : Value} {xs : List Int} (h : Rd oneU8 1 w v xs) (src dst e : TypeId) (hs : P.underlying src = some (.slice e)) (he : P.underlying e = some (.int .u8)) (hd : P.underlying dst = some .string) :
    (convert src dst v).run P w = .ok (.string (strOfNums xs)) w := by
  obtain ⟨_, A, c, rfl, _, _, hc⟩ := h
  cases xs with
  | nil =>
    cases A with
    | none => exact run_convert_bytes_nil w src e hs he 0 c dst hd
    | some a => exact run_convert_bytes_back w src dst e a c [] hs he hd (by intro j hj; simp at hj)
  | cons x l =>
    obtain ⟨b, off, rfl, hq⟩ := hc (by simp)
    refine run_convert_bytes_arg w src e hs he b off _ c (x :: l) rfl (fun i hi => ?_) dst hd
    have := hq i hi 0 _ rfl
    rw [show off + i * 1 + 0 = off + i from by omega] at this
    rw [this, List.getD_eq_getElem?_getD, List.getElem?_eq_getElem hi]
    rfl
theorem own_lt {α : Type} {E : TypeId} {k : Nat} {enc : α → List Value} {w : World} {base : Nat} {v : Value} {xs : List α} (h : Own E k enc w base v xs) {g : Nat} (hg : v.ownBlock = some g) : g < w.heap.size := by
  obtain ⟨_, cur, h2⟩ := own_typed h g hg
  exact (Array.getElem?_eq_some_iff.1 h2).1
end Go.Proofs.Ythiapebodpkamaa

