/- The closures of code.Right. -/
import Derived.Test.YthiapebodpkamaaFitsC
import Derived.Test.YthiapebodpkamaaIdx
import Derived.Outline
namespace Go.Proofs.Ythiapebodpkamaa
open Go.RowKit Go.Shelf
abbrev mkStr : ByteArray → Value := fun s => .string s
def memB (s : ByteArray) (l : List ByteArray) : Bool := l.any fun x => decide (s = x)
def setFn (l : List ByteArray) : ByteArray → Option Value := fun s => if memB s l = true then some (.int .i64 1) else none
def wrongB (l : List ByteArray) (v : GVar) : Bool := memB v.name l || !(namedB v.name) || decide (v.cls < 1) || decide (4 < v.cls) || !(typedB v.ty) || !(withinB v.ty v.first)
theorem zeroInt (w : World) : (zeroValue 3).run Try.prog w = .ok (.int .i64 0) w := by kernel_rfl
theorem isMap_ne {w : World} {M : Nat} {f : ByteArray → Option Value} (h : MapFn mkStr w M f) {a : Addr} {v : Value} (hc : w.cell? a = some v) : a.block ≠ M := by
  intro e
  obtain ⟨l, ⟨es, c, hh, _⟩, _⟩ := h
  simp [World.cell?, e, hh] at hc
set_option maxHeartbeats 2000000 in
set_option maxRecDepth 100000 in
theorem wrong_any (v : GVar) (hv : v.Wf) (sb M : Nat) (l : List ByteArray) (w : World) (hs : w.cell? ⟨sb, 0, none⟩ = some (.map (some M))) (hm : MapFn mkStr w M (setFn l)) :
    Calls Try.prog 39 #[.agg #[.string v.name, .int .u8 v.cls, .int .u8 v.ty, .int .i64 v.first], .pointer (some ⟨sb, 0, none⟩)] w fun e w' => e = .returned (.bool (wrongB l v)) ∧ MapFn mkStr w' M (setFn (v.name :: l)) ∧ w.grownBy w' (some M) := by
  have hT : Try.prog.underlying 78 = some (.map 9 3) := Try.underlying78
  have L : KeyLaw Try.prog 9 .string mkStr := keyLaw_string Try.underlying9
  obtain ⟨⟨cl0, cl1⟩⟩ := Fact.mk hv.cls
  obtain ⟨⟨ty0, ty1⟩⟩ := Fact.mk hv.ty
  obtain ⟨b1, b2, b3⟩ := one_block w (.cells #[.string v.name, .int .u8 v.cls, .int .u8 v.ty, .int .i64 v.first] 41)
  have hm1 := Fact.mk (hm.keep (b1.block M hm.lt))
  have hs1 := cell_below b1 _ _ hs
  have k0 : (w.alloc (.cells #[.string v.name, .int .u8 v.cls, .int .u8 v.ty, .int .i64 v.first] 41)).cell? ⟨w.heap.size, 0, none⟩ = some (.string v.name) := by rw [cell_of_row _ _ 0 _ _ _ b2]; rfl
  have k1 : (w.alloc (.cells #[.string v.name, .int .u8 v.cls, .int .u8 v.ty, .int .i64 v.first] 41)).cell? ⟨w.heap.size, 1, none⟩ = some (.int .u8 v.cls) := by rw [cell_of_row _ _ 1 _ _ _ b2]; rfl
  have k2 : (w.alloc (.cells #[.string v.name, .int .u8 v.cls, .int .u8 v.ty, .int .i64 v.first] 41)).cell? ⟨w.heap.size, 2, none⟩ = some (.int .u8 v.ty) := by rw [cell_of_row _ _ 2 _ _ _ b2]; rfl
  have k3 : (w.alloc (.cells #[.string v.name, .int .u8 v.cls, .int .u8 v.ty, .int .i64 v.first] 41)).cell? ⟨w.heap.size, 3, none⟩ = some (.int .i64 v.first) := by rw [cell_of_row _ _ 3 _ _ _ b2]; rfl
  have K := Fact.mk (And.intro k0 (And.intro k1 (And.intro k2 (And.intro k3 (And.intro hs1 (grown_below b1 (some M)))))))
  clear k0 k1 k2 k3 hm b1 b2 b3 hv hs
  have hne : M ≠ w.heap.size := fun e => isMap_ne hm1.out K.out.1 e.symm
  obtain ⟨ag, hag⟩ : ∃ ag : Bool, memB v.name l = ag := ⟨_, rfl⟩
  have hval : (setFn l v.name).getD (.int .i64 0) = .int .i64 (if ag = true then 1 else 0) := by
    unfold setFn
    rw [hag]
    cases ag <;> rfl
  unfold wrongB
  rw [hag]
  have HV := Fact.mk hval
  clear hval hag
  have hfin : ∀ W, MapFn mkStr W M (fun b => if b = v.name then some (.int .i64 1) else setFn l b) → MapFn mkStr W M (setFn (v.name :: l)) := fun W h => h.ext (fun a => by
    unfold setFn
    by_cases e : a = v.name
    · subst e; simp [memB]
    · have e' : memB a (v.name :: l) = memB a l := by simp only [memB, List.any_cons, decide_eq_false e, Bool.false_or]
      rw [e', if_neg e])
  have HF := Fact.mk hfin
  clear hfin
  go_enter Try.func39, Try.ntmps39
  go_wp2_with (first | (at_lookup; refine wpList_look L hT zeroInt rfl _ _ rfl M _ v.name rfl rfl hm1.out _ HV.out ?_) | (refine wpList_put L hT rfl _ _ _ (.inr rfl) rfl M _ v.name rfl rfl hm1.out _ rfl ?_; intro w' hm2 hg2 _; have HM2 := Fact.mk (HF.out _ hm2); have HG2 := Fact.mk (grown_trans K.out.2.2.2.2.2 hg2); have c0 := hg2.cell K.out.1 (by simpa using hne.symm); have c1 := hg2.cell K.out.2.1 (by simpa using hne.symm); have c2 := hg2.cell K.out.2.2.1 (by simpa using hne.symm); have c3 := hg2.cell K.out.2.2.2.1 (by simpa using hne.symm); clear hm2 hg2) | (go_at_call 40; refine (named_any _ _).mono ?_; rintro e w' ⟨rfl, rfl⟩) | (go_at_call 41; refine (typed_any _ _).mono ?_; rintro e w' ⟨rfl, rfl⟩) | (go_at_call 42; refine (within_any _ _ _).mono ?_; rintro e w' ⟨rfl, rfl⟩))
  all_goals go_ret
  all_goals (refine ⟨ret_bool ?_, HM2.out, HG2.out⟩; clear HM2 HG2 K hm1 HF HV; first | (simp_all; done) | (simp_all; omega))
end Go.Proofs.Ythiapebodpkamaa

