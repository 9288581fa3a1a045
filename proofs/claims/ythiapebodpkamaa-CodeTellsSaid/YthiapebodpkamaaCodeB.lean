/- Contract of code.shape. -/
import Derived.Test.YthiapebodpkamaaCodeA
import Derived.Test.YthiapebodpkamaaPins
import Derived.Test.YthiapebodpkamaaLit
namespace Go.Proofs.Ythiapebodpkamaa
open Go.RowKit
/-! ### shape -/
def shapeStr (o : Int) : List UInt8 :=
  if o = 1 then [116, 45, 110] else if o = 2 then [45, 118, 45] else if o = 3 then [45, 115, 45] else if o = 4 then [119, 45, 45] else if o = 5 then [119, 45, 45] else if o = 6 then [119, 45, 45] else if o = 7 then [119, 45, 45] else if o = 8 then [119, 45, 45]
  else if o = 14 then [119, 45, 45] else if o = 9 then [116, 45, 45] else if o = 10 then [116, 45, 45] else if o = 11 then [116, 45, 45] else if o = 12 then [116, 45, 45] else if o = 13 then [116, 45, 45] else if o = 15 then [116, 116, 45]
  else if o = 16 then [45, 45, 45] else if o = 17 then [45, 45, 45] else if o = 22 then [45, 45, 45] else if o = 18 then [45, 106, 45] else if o = 19 then [45, 106, 45] else if o = 20 then [45, 98, 45] else if o = 21 then [45, 98, 112] else []
theorem zeroShape (w : World) : (zeroValue 132).run Try.prog w = .ok (.agg #[.string ⟨#[]⟩]) w := by kernel_rfl
theorem shape_is (o : Int) : ((if o = 21 then some (.agg #[.string ⟨#[45, 98, 112]⟩]) else (if o = 20 then some (.agg #[.string ⟨#[45, 98, 45]⟩]) else (if o = 19 then some (.agg #[.string ⟨#[45, 106, 45]⟩]) else (if o = 18 then some (.agg #[.string ⟨#[45, 106, 45]⟩]) else (if o = 22 then some (.agg #[.string ⟨#[45, 45, 45]⟩]) else (if o = 17 then some (.agg #[.string ⟨#[45, 45, 45]⟩]) else (if o = 16 then some (.agg #[.string ⟨#[45, 45, 45]⟩]) else (if o = 15 then some (.agg #[.string ⟨#[116, 116, 45]⟩]) else (if o = 13 then some (.agg #[.string ⟨#[116, 45, 45]⟩]) else (if o = 12 then some (.agg #[.string ⟨#[116, 45, 45]⟩]) else (if o = 11 then some (.agg #[.string ⟨#[116, 45, 45]⟩]) else (if o = 10 then some (.agg #[.string ⟨#[116, 45, 45]⟩]) else (if o = 9 then some (.agg #[.string ⟨#[116, 45, 45]⟩]) else (if o = 14 then some (.agg #[.string ⟨#[119, 45, 45]⟩]) else (if o = 8 then some (.agg #[.string ⟨#[119, 45, 45]⟩]) else (if o = 7 then some (.agg #[.string ⟨#[119, 45, 45]⟩]) else (if o = 6 then some (.agg #[.string ⟨#[119, 45, 45]⟩]) else (if o = 5 then some (.agg #[.string ⟨#[119, 45, 45]⟩]) else (if o = 4 then some (.agg #[.string ⟨#[119, 45, 45]⟩]) else (if o = 3 then some (.agg #[.string ⟨#[45, 115, 45]⟩]) else (if o = 2 then some (.agg #[.string ⟨#[45, 118, 45]⟩]) else (if o = 1 then some (.agg #[.string ⟨#[116, 45, 110]⟩]) else none)))))))))))))))))))))) : Option Value).getD (.agg #[.string ⟨#[]⟩]) = .agg #[.string ⟨(shapeStr o).toArray⟩] := by
  by_cases h1 : o = 1
  · subst h1; rfl
  by_cases h2 : o = 2
  · subst h2; rfl
  by_cases h3 : o = 3
  · subst h3; rfl
  by_cases h4 : o = 4
  · subst h4; rfl
  by_cases h5 : o = 5
  · subst h5; rfl
  by_cases h6 : o = 6
  · subst h6; rfl
  by_cases h7 : o = 7
  · subst h7; rfl
  by_cases h8 : o = 8
  · subst h8; rfl
  by_cases h9 : o = 9
  · subst h9; rfl
  by_cases h10 : o = 10
  · subst h10; rfl
  by_cases h11 : o = 11
  · subst h11; rfl
  by_cases h12 : o = 12
  · subst h12; rfl
  by_cases h13 : o = 13
  · subst h13; rfl
  by_cases h14 : o = 14
  · subst h14; rfl
  by_cases h15 : o = 15
  · subst h15; rfl
  by_cases h16 : o = 16
  · subst h16; rfl
  by_cases h17 : o = 17
  · subst h17; rfl
  by_cases h18 : o = 18
  · subst h18; rfl
  by_cases h19 : o = 19
  · subst h19; rfl
  by_cases h20 : o = 20
  · subst h20; rfl
  by_cases h21 : o = 21
  · subst h21; rfl
  by_cases h22 : o = 22
  · subst h22; rfl
  simp [shapeStr, h1, h2, h3, h4, h5, h6, h7, h8, h9, h10, h11, h12, h13, h14, h15, h16, h17, h18, h19, h20, h21, h22]
set_option maxRecDepth 100000 in
theorem shape_any (o : Int) (w : World) : Calls Try.prog 77 #[.int .u8 o] w fun e w' => e = .returned (.string ⟨(shapeStr o).toArray⟩) ∧ Below w.heap.size w w' := by
  have hmm := @run_makeMap Try.prog
  have hfd : ∀ s w, (Instr.field 132 (.agg #[.string s]) 0).run Try.prog w = .ok (.string s) w := fun _ _ => by kernel_rfl
  have hT : Try.prog.underlying 133 = some (.map 36 132) := Try.underlying133
  have L : KeyLaw Try.prog 36 (.int .u8) mkU8 := keyLaw_int Try.underlying36
  go_enter Try.func77, Try.ntmps77
  go_wp2_with (first | (refine wpList_putB L hT rfl _ _ _ (.inl rfl) rfl w.heap.size _ _ rfl rfl (by first | exact MapFn.made _ _ | assumption) _ rfl w.heap.size w (Nat.le_refl _) (by first | exact (Below.refl _ w).alloc (Nat.le_refl _) _ | assumption) ?_; intro w' hm hb) | (at_lookup; (refine wpList_look L hT (zeroShape) rfl _ _ rfl w.heap.size _ _ rfl rfl (by assumption) (.agg #[.string ⟨(shapeStr o).toArray⟩]) ?hv ?_); case hv => exact shape_is o))
  go_ret
  exact ⟨rfl, by assumption⟩
end Go.Proofs.Ythiapebodpkamaa

