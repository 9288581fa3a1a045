/- Contract of machine.runs: a block of the machine is run. -/
import Derived.Test.YtiogpainajokkaaMchM
import Derived.Test.YtiogpainajokkaaScP
import Derived.Test.YtiogpainajokkaaOutM
namespace Go.Proofs.Ytiogpainajokkaa
open Go.RowKit
theorem rd_at64 {w : World} {v : Value} {xs : List Int} (h : Rd oneI64 1 w v xs) (j : Nat) (hj : j < xs.length) : ∃ b off c, v = .slice (some ⟨b, off, none⟩) xs.length c ∧ w.cell? ⟨b, off + j, none⟩ = some (.int .i64 (xs.getD j 0)) := by
  obtain ⟨_, A, c, rfl, _, _, h3⟩ := h
  obtain ⟨b, off, rfl, hc⟩ := h3 (by omega)
  refine ⟨b, off, c, rfl, ?_⟩
  rw [List.getD_eq_getElem?_getD, List.getElem?_eq_getElem hj]
  have := hc j hj 0 _ rfl
  rwa [show off + j * 1 + 0 = off + j by omega] at this
theorem run_tailI (W : World) (A : Option Addr) (n c d : Nat) (h : d ≤ n) : (Instr.slice 31 (.slice A n c) (some (.int .i64 (d : Int))) none none).run Try.prog W = .ok (tailS A n c d) W := by
  have ht : Try.prog.underlying 31 = some (.slice (Try.prog.elem 31)) := by kernel_rfl
  have hs : (Go.sizeOf (Try.prog.elem 31)).run Try.prog W = .ok 1 W := by kernel_rfl
  rw [run_slice_l W _ _ _ _ ht .i64 _ (by omega) (by omega), hs]
  simp [Result.andThen, sliced, tailS]
theorem Rd.tail64 {w : World} {A : Option Addr} {n c : Nat} {xs : List Int} (h : Rd oneI64 1 w (.slice A n c) xs) (d : Nat) (hd : d ≤ n) : Rd oneI64 1 w (tailS A n c d) (xs.drop d) := by
  obtain ⟨h0, A', c', e, h2, h4, h3⟩ := h
  cases e
  refine ⟨by simp; omega, _, _, by unfold tailS; rw [List.length_drop], by simp; omega, fun e => ?_, fun hp => ?_⟩
  · by_cases hcd : c = d
    · rw [if_pos hcd] at e; have := h4 e; omega
    · rw [if_neg hcd] at e
      have : A = none := by cases A <;> simp_all
      have := h4 this; omega
  · have hl : d < xs.length := by simp at hp; omega
    obtain ⟨b, off, rfl, hc⟩ := h3 (by omega)
    refine ⟨b, off + d, ?_, fun j hj i u hu => ?_⟩
    · rw [if_neg (by omega)]
      simp [Addr.add_lit]
    · have hj' : d + j < xs.length := by simp at hj; omega
      have e : (xs.drop d)[j] = xs[d + j] := by rw [List.getElem_drop]
      rw [e] at hu
      have := hc (d + j) hj' i u hu
      rw [show off + d + j * 1 + i = off + (d + j) * 1 + i by omega]
      exact this
end Go.Proofs.Ytiogpainajokkaa

