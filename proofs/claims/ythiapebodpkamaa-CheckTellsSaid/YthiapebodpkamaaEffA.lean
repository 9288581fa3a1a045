/- What an instruction takes from a stack, and puts: words. -/
import Derived.Test.YthiapebodpkamaaChkLaw
import Derived.Test.YthiapebodpkamaaEq8
import Derived.Test.YthiapebodpkamaaCln
import Derived.Test.YthiapebodpkamaaRightLaw
import Derived.Deep.RegionWith
import Derived.Deep.DeepCutAuto
import Derived.Deep.QuietTactic
import Derived.BigQuiet
import Derived.IntWalk
namespace Go.Proofs.Ythiapebodpkamaa
open Go.RowKit
/-- A checker lies at X: its program's parts, its places. -/
structure ChkAt (w : World) (X : Nat) (c : GCode) (vs bs is sp : Value) : Prop where
  row : w.heap[X]? = some (.cells #[.string c.name, vs, bs, is, sp] 91 (0, 0))
  rd : CodeRd w c vs bs is
theorem ChkAt.below {w w' : World} {X : Nat} {c : GCode} {vs bs is sp : Value} (h : ChkAt w X c vs bs is sp) (hb : Below w.heap.size w w') : ChkAt w' X c vs bs is sp :=
  ⟨by rw [hb.block X (Array.getElem?_eq_some_iff.1 h.row).1]; exact h.row, h.rd.below hb⟩
theorem ChkAt.lt {w : World} {X : Nat} {c : GCode} {vs bs is sp : Value} (h : ChkAt w X c vs bs is sp) : X < w.heap.size := (Array.getElem?_eq_some_iff.1 h.row).1
theorem ChkAt.cells {w : World} {X : Nat} {c : GCode} {vs bs is sp : Value} (h : ChkAt w X c vs bs is sp) : w.cell? ⟨X, 0, none⟩ = some (.string c.name) ∧ w.cell? ⟨X, 1, none⟩ = some vs ∧ w.cell? ⟨X, 2, none⟩ = some bs ∧ w.cell? ⟨X, 3, none⟩ = some is ∧ w.cell? ⟨X, 4, none⟩ = some sp :=
  ⟨by rw [cell_of_row _ _ 0 _ _ _ h.row]; rfl, by rw [cell_of_row _ _ 1 _ _ _ h.row]; rfl, by rw [cell_of_row _ _ 2 _ _ _ h.row]; rfl, by rw [cell_of_row _ _ 3 _ _ _ h.row]; rfl, by rw [cell_of_row _ _ 4 _ _ _ h.row]; rfl⟩
/-- Two lists of types are told; nothing that was there has changed. -/
def EffPost (w : World) (r : List Int × List Int) (e : Ending) (w' : World) : Prop := ∃ v1 v2, e = .returned (.tuple #[v1, v2]) ∧ Rd oneU8 1 w' v1 r.1 ∧ Rd oneU8 1 w' v2 r.2 ∧ Below w.heap.size w w'
def vIns (i : GIns) : Value := .agg #[.int .u8 i.op, .int .u8 i.t, .int .i64 i.a, .int .i64 i.n]
theorem rd_at {w : World} {m : Nat} (hm : m = w.heap.size) (xs : List Int) (T : TypeId) (hl : xs.length ≤ 100) : Rd oneU8 1 (w.alloc (.cells (xs.flatMap oneU8).toArray T)) (.slice (some ⟨m, 0, none⟩) xs.length xs.length) xs := by
  subst hm
  exact rd_new oneU8 1 oneU8_len w xs T (by omega)
theorem rd_heap {w : World} {m : Nat} {T : TypeId} (xs : List Int) (hl : xs.length ≤ 100) (h : w.heap[m]? = some (.cells (xs.flatMap oneU8).toArray T (0, 0))) : Rd oneU8 1 w (.slice (some ⟨m, 0, none⟩) xs.length xs.length) xs := by
  refine ⟨by omega, _, _, rfl, Nat.le_refl _, (fun h => by cases h), fun _ => ⟨m, 0, rfl, fun j hj i u hu => ?_⟩⟩
  rw [cell_of_row _ _ _ _ _ (0, 0) h]
  have := flatMap_at oneU8_len xs j hj i u hu
  simpa using this
theorem eff_pair {w w' : World} {r : List Int × List Int} {m1 m2 : Nat} (xs ys : List Int) (hr : r = (xs, ys)) {e : Ending} {T : TypeId} (he : e = .returned (.tuple #[.slice (some ⟨m1, 0, none⟩) xs.length xs.length, .slice (some ⟨m2, 0, none⟩) ys.length ys.length])) (l1 : xs.length ≤ 100) (l2 : ys.length ≤ 100) (h1 : w'.heap[m1]? = some (.cells (xs.flatMap oneU8).toArray T (0, 0))) (h2 : w'.heap[m2]? = some (.cells (ys.flatMap oneU8).toArray T (0, 0))) (hb : Below w.heap.size w w') : EffPost w r e w' := by
  subst hr
  exact ⟨_, _, he, rd_heap xs l1 h1, rd_heap ys l2 h2, hb⟩
theorem tri (w : World) (o1 o2 o3 : Obj) : (((w.alloc o1).alloc o2).alloc o3).drew.heap[w.heap.size + 1]? = some o2 ∧ (((w.alloc o1).alloc o2).alloc o3).drew.heap[w.heap.size + 1 + 1]? = some o3 ∧ Below w.heap.size w (((w.alloc o1).alloc o2).alloc o3).drew := by
  obtain ⟨_, rfl, h1, _, h2, h3, _⟩ := three_blocks w o1 o2 o3
  exact ⟨h2, h3, h1.drew⟩
theorem duo (w : World) (o1 o2 : Obj) : ((w.alloc o1).alloc o2).drew.heap[w.heap.size + 1]? = some o2 ∧ Below w.heap.size w ((w.alloc o1).alloc o2).drew := by
  obtain ⟨h1, _, h2, _⟩ := two_blocks w o1 o2
  exact ⟨h2, h1.drew⟩
theorem tri0 (w : World) (o1 o2 o3 : Obj) : (((w.alloc o1).alloc o2).alloc o3).heap[w.heap.size + 1]? = some o2 ∧ (((w.alloc o1).alloc o2).alloc o3).heap[w.heap.size + 1 + 1]? = some o3 ∧ Below w.heap.size w (((w.alloc o1).alloc o2).alloc o3) := by
  obtain ⟨_, rfl, h1, _, h2, h3, _⟩ := three_blocks w o1 o2 o3
  exact ⟨h2, h3, h1⟩
theorem duo0 (w : World) (o1 o2 : Obj) : ((w.alloc o1).alloc o2).heap[w.heap.size + 1]? = some o2 ∧ Below w.heap.size w ((w.alloc o1).alloc o2) := by
  obtain ⟨h1, _, h2, _⟩ := two_blocks w o1 o2
  exact ⟨h2, h1⟩
theorem Rd.last8 {w : World} {v : Value} {s : List Int} (h : Rd oneU8 1 w v s) (m : Nat) (hm : s.length = m + 1) : ∃ b off c, v = .slice (some ⟨b, off, none⟩) (m + 1) c ∧ w.cell? ⟨b, off + m, none⟩ = some (.int .u8 (s.getLastD 0)) ∧ m ≤ 9223372036854775806 := by
  obtain ⟨h0, A, c, rfl, h2, h4, h3⟩ := h
  obtain ⟨b, off, rfl, hc⟩ := h3 (by omega)
  have := hc m (by omega) 0 (.int .u8 s[m]) rfl
  rw [show off + m * 1 + 0 = off + m by omega] at this
  refine ⟨b, off, c, by rw [hm], ?_, by omega⟩
  have e : s.getLastD 0 = s[m] := by
    rw [List.getLastD_eq_getLast?, List.getLast?_eq_getElem?, show s.length - 1 = m by omega, List.getElem?_eq_getElem (by omega)]
    rfl
  rw [e]; exact this
theorem Rd.at8 {w : World} {v : Value} {s : List Int} (h : Rd oneU8 1 w v s) (k : Nat) (hk : k < s.length) : ∃ b off c, v = .slice (some ⟨b, off, none⟩) s.length c ∧ w.cell? ⟨b, off + k, none⟩ = some (.int .u8 s[k]) ∧ s.length ≤ 9223372036854775807 ∧ s.length ≤ c := by
  obtain ⟨h0, A, c, rfl, h2, h4, h3⟩ := h
  obtain ⟨b, off, rfl, hc⟩ := h3 (by omega)
  have := hc k hk 0 (.int .u8 s[k]) rfl
  rw [show off + k * 1 + 0 = off + k by omega] at this
  exact ⟨b, off, c, rfl, this, h0, h2⟩
theorem rd_one8 {w : World} {B o c : Nat} {x : Int} (h : w.cell? ⟨B, o, none⟩ = some (.int .u8 x)) (hc : 1 ≤ c) : Rd oneU8 1 w (.slice (some ⟨B, o, none⟩) 1 c) [x] := by
  refine ⟨by simp, _, _, rfl, hc, (fun h => by cases h), fun _ => ⟨B, o, rfl, fun j hj i u hu => ?_⟩⟩
  obtain rfl : j = 0 := by simpa using hj
  obtain ⟨rfl, rfl⟩ : i = 0 ∧ u = .int .u8 x := by
    have hi : i < 1 := (List.getElem?_eq_some_iff.1 hu).1
    obtain rfl : i = 0 := by omega
    exact ⟨rfl, by simpa [oneU8] using hu.symm⟩
  exact h
theorem eff_puts {w w' : World} {r : List Int × List Int} {m1 : Nat} (xs : List Int) (hr : r = ([], xs)) {e : Ending} {T : TypeId} (he : e = .returned (.tuple #[.slice none 0 0, .slice (some ⟨m1, 0, none⟩) xs.length xs.length])) (l1 : xs.length ≤ 100) (h1 : w'.heap[m1]? = some (.cells (xs.flatMap oneU8).toArray T (0, 0))) (hb : Below w.heap.size w w') : EffPost w r e w' := by
  subst hr
  exact ⟨_, _, he, rd_nil _ _ _, rd_heap xs l1 h1, hb⟩
theorem eff_takes {w w' : World} {r : List Int × List Int} {m1 : Nat} (xs : List Int) (hr : r = (xs, [])) {e : Ending} {T : TypeId} (he : e = .returned (.tuple #[.slice (some ⟨m1, 0, none⟩) xs.length xs.length, .slice none 0 0])) (l1 : xs.length ≤ 100) (h1 : w'.heap[m1]? = some (.cells (xs.flatMap oneU8).toArray T (0, 0))) (hb : Below w.heap.size w w') : EffPost w r e w' := by
  subst hr
  exact ⟨_, _, he, rd_heap xs l1 h1, rd_nil _ _ _, hb⟩
theorem fit_var {c : GCode} {i : GIns} (hf : fitsB c i = true) (ho : i.op = 2 ∨ i.op = 3) : 0 ≤ i.a ∧ i.a < c.vars.length := by
  obtain ⟨op, t, a, n⟩ := i
  rcases ho with ho | ho
  all_goals
    obtain rfl : op = _ := ho
    show 0 ≤ a ∧ a < (c.vars.length : Int)
    simp only [fitsB, show shapeStr 2 = [45, 118, 45] from rfl, show shapeStr 3 = [45, 115, 45] from rfl, Bool.and_eq_true] at hf
    have h := hf.1.2
    simp [chk, storeB, belowB] at h
    omega
theorem fit_conv {c : GCode} {i : GIns} (hf : fitsB c i = true) (ho : i.op = 15) : 1 ≤ i.a ∧ i.a ≤ 5 := by
  obtain ⟨op, t, a, n⟩ := i
  obtain rfl : op = _ := ho
  simp only [fitsB, show shapeStr 15 = [116, 116, 45] from rfl, Bool.and_eq_true] at hf
  have h := hf.1.2
  simpa [chk, typedB] using h
theorem fit_block {c : GCode} {i : GIns} (hf : fitsB c i = true) (ho : i.op = 20 ∨ i.op = 21) : 0 ≤ i.a ∧ i.a < c.blocks.length := by
  obtain ⟨op, t, a, n⟩ := i
  rcases ho with ho | ho
  all_goals
    obtain rfl : op = _ := ho
    simp only [fitsB, show shapeStr 20 = [45, 98, 45] from rfl, show shapeStr 21 = [45, 98, 112] from rfl, Bool.and_eq_true] at hf
    have h := hf.1.2
    simp [chk, belowB] at h
    omega
theorem fit_pin {c : GCode} {i : GIns} (hf : fitsB c i = true) (ho : i.op = 21) : 0 ≤ i.n ∧ i.n < (pinsOut (c.blocks.getD i.a.toNat 0)).length := by
  obtain ⟨op, t, a, n⟩ := i
  obtain rfl : op = _ := ho
  simp only [fitsB, show shapeStr 21 = [45, 98, 112] from rfl, Bool.and_eq_true] at hf
  have h := hf.2
  simpa [chk, belowB] using h
theorem rd_lit (xs : List Int) (w w' : World) (T : TypeId) (hl : xs.length ≤ 100) (hb : Below (w.alloc (.cells (xs.flatMap oneU8).toArray T)).heap.size (w.alloc (.cells (xs.flatMap oneU8).toArray T)) w') : Rd oneU8 1 w' (.slice (some ⟨w.heap.size, 0, none⟩) xs.length xs.length) xs :=
  (rd_new oneU8 1 oneU8_len w xs T (by omega)).below hb
theorem id_any (v : Value) (A : Option Addr) (n c : Nat) (h : v = .slice A n c) (w : World) : Calls Try.prog 90 #[v] w fun e w' => e = .returned v ∧ w = w' := by
  subst h
  go_enter Try.func90, Try.ntmps90
  go_wp2
  go_ret
  exact ⟨rfl, rfl⟩
end Go.Proofs.Ythiapebodpkamaa

