/- Copies of a list of numbers and of a list of blocks. -/
import Derived.Test.YtiogpainajokkaaMchM
import Derived.Outline
import Derived.Lib.SliceRun
import Derived.Test.YtiogpainajokkaaBaseM
import Derived.Test.YtiogpainajokkaaBlkM
import Derived.Test.YtiogpainajokkaaProg
import Derived.Shelf.Abstract
import Derived.Test.YtiogpainajokkaaScP
import Derived.Test.YtiogpainajokkaaRBlkM
namespace Go.Proofs.Ytiogpainajokkaa
open Go.RowKit
theorem encBlk_one : ∀ y, ∀ u ∈ encBlk y, u.oneCell' = true := by
  intro y u hu
  simp only [encBlk, List.mem_cons, List.not_mem_nil, or_false] at hu
  rcases hu with rfl | rfl | rfl | rfl | rfl | rfl | rfl | rfl | rfl | rfl <;> rfl
/-- A row of the call's own with these types. -/
def RowPost64 (w : World) (xs : List Int) (e : Ending) (w' : World) : Prop := ∃ v, e = .returned v ∧ Own 2 1 oneI64 w' w.heap.size v xs ∧ Below w.heap.size w w'
theorem own_nil64 (w : World) : Own 2 1 oneI64 (w.alloc (.cells #[] 2)) w.heap.size (.slice (some ⟨w.heap.size, 0, none⟩) 0 0) [] :=
  ⟨by simp, .inr ⟨w.heap.size, 0, #[], rfl, Nat.le_refl _, heap_alloc_new w _, Nat.le_refl _, Nat.zero_le _, by simp, by simp⟩⟩
set_option maxHeartbeats 800000 in
set_option maxRecDepth 100000 in
theorem clone64_any (w : World) (v : Value) (xs : List Int) (hl : xs.length ≤ 100000) (h : Rd oneI64 1 w v xs) : Calls Try.prog 54 #[v] w (RowPost64 w xs) := by
  obtain ⟨i0, hi, hz0, hz1, hz2⟩ := i64_info
  have hq : ∀ (w : World) (a : Option Addr) (n c n' c' : Nat), (binOp .eql 31 (.slice a n c) (.slice none n' c')).run Try.prog w = .ok (.bool a.isNone) w := fun w a n c n' c' => Lib.run_eql_slice_nil w _ _ a n c n' c' Try.underlying31
  have HR := Fact.mk h
  obtain ⟨_, A, c, rfl, _, hnil, _⟩ := h
  cases A with
  | none =>
    obtain rfl := hnil rfl
    obtain rfl : xs = [] := by
      cases xs with
      | nil => rfl
      | cons x l =>
        obtain ⟨_, A, c, e, _, _, h3⟩ := HR.out
        cases e
        obtain ⟨_, _, e, _⟩ := h3 (by simp)
        cases e
    clear hnil
    go_enter Try.func54, Try.ntmps54
    go_wp2
    go_ret
    exact ⟨_, rfl, Own.nil _ _ _ _ _, Below.refl _ _⟩
  | some ad =>
    clear hnil
    go_enter Try.func54, Try.ntmps54
    go_wp2_with (at_builtin; refine wpList_append_rd rfl _ _ 31 rfl w.heap.size 2 i0 (.int .i64 0) 1 8 Try.underlying31 hi hz0 hz1 hz2 rfl (by decide) (by decide) oneI64 oneI64_len oneI64_one _ [] rfl (own_nil64 w) _ xs rfl (HR.out.below ((Below.refl _ _).alloc (Nat.le_refl _) _)) (by simp; omega) (by simp) ?_; intro v1 w1 ho hr)
    go_wp2
    go_ret
    refine ⟨_, rfl, ?_, ?_⟩
    · simpa using ho
    · exact ((Below.refl _ w).alloc (Nat.le_refl _) _).grown hr.g (by simp) (fun k hk => by cases hk; exact Nat.le_refl _)
theorem blk_info : ∃ i, Try.prog.info? 67 = some i ∧ i.zero = some (.agg #[.int .u8 0, .bool false, .bool false, .bool false, .bool false, .int .i64 0, .int .i64 0, .int .i64 0, .bool false, .bool false]) ∧ i.size = 10 ∧ i.bytes = 40 := by
  have h : (Try.prog.info? 67).map (fun i => (i.zero, i.size, i.bytes)) = some (some (.agg #[.int .u8 0, .bool false, .bool false, .bool false, .bool false, .int .i64 0, .int .i64 0, .int .i64 0, .bool false, .bool false]), 10, 40) := by kernel_rfl
  obtain ⟨i, h1, h2⟩ := Option.map_eq_some_iff.1 h
  simp only [Prod.mk.injEq] at h2
  exact ⟨i, h1, h2.1, h2.2.1, h2.2.2⟩
/-- A row of the call's own with these types. -/
def RowPostB (w : World) (xs : List GBlock) (e : Ending) (w' : World) : Prop := ∃ v, e = .returned v ∧ Own 67 10 encBlk w' w.heap.size v xs ∧ Below w.heap.size w w'
theorem own_nilB (w : World) : Own 67 10 encBlk (w.alloc (.cells #[] 67)) w.heap.size (.slice (some ⟨w.heap.size, 0, none⟩) 0 0) [] :=
  ⟨by simp, .inr ⟨w.heap.size, 0, #[], rfl, Nat.le_refl _, heap_alloc_new w _, Nat.le_refl _, Nat.zero_le _, by simp, by simp⟩⟩
set_option maxHeartbeats 800000 in
set_option maxRecDepth 100000 in
theorem cloneB_any (w : World) (v : Value) (xs : List GBlock) (hl : xs.length ≤ 100000) (h : Rd encBlk 10 w v xs) : Calls Try.prog 71 #[v] w (RowPostB w xs) := by
  obtain ⟨i0, hi, hz0, hz1, hz2⟩ := blk_info
  have hq : ∀ (w : World) (a : Option Addr) (n c n' c' : Nat), (binOp .eql 32 (.slice a n c) (.slice none n' c')).run Try.prog w = .ok (.bool a.isNone) w := fun w a n c n' c' => Lib.run_eql_slice_nil w _ _ a n c n' c' Try.underlying32
  have HR := Fact.mk h
  obtain ⟨_, A, c, rfl, _, hnil, _⟩ := h
  cases A with
  | none =>
    obtain rfl := hnil rfl
    obtain rfl : xs = [] := by
      cases xs with
      | nil => rfl
      | cons x l =>
        obtain ⟨_, A, c, e, _, _, h3⟩ := HR.out
        cases e
        obtain ⟨_, _, e, _⟩ := h3 (by simp)
        cases e
    clear hnil
    go_enter Try.func71, Try.ntmps71
    go_wp2
    go_ret
    exact ⟨_, rfl, Own.nil _ _ _ _ _, Below.refl _ _⟩
  | some ad =>
    clear hnil
    go_enter Try.func71, Try.ntmps71
    go_wp2_with (at_builtin; refine wpList_append_rd rfl _ _ 32 rfl w.heap.size 67 i0 (.agg #[.int .u8 0, .bool false, .bool false, .bool false, .bool false, .int .i64 0, .int .i64 0, .int .i64 0, .bool false, .bool false]) 10 40 Try.underlying32 hi hz0 hz1 hz2 rfl (by decide) (by decide) encBlk encBlk_len encBlk_one _ [] rfl (own_nilB w) _ xs rfl (HR.out.below ((Below.refl _ _).alloc (Nat.le_refl _) _)) (by simp; omega) (by simp) ?_; intro v1 w1 ho hr)
    go_wp2
    go_ret
    refine ⟨_, rfl, ?_, ?_⟩
    · simpa using ho
    · exact ((Below.refl _ w).alloc (Nat.le_refl _) _).grown hr.g (by simp) (fun k hk => by cases hk; exact Nat.le_refl _)
end Go.Proofs.Ytiogpainajokkaa

namespace Go.Proofs.Ytiogpainajokkaa
open Go.RowKit
/-- Do two lists agree, one by one? -/
def eqAll {α β : Type} (p : α → β → Bool) : List α → List β → Bool
  | [], [] => true
  | x :: xs, y :: ys => p x y && eqAll p xs ys
  | _, _ => false
theorem eqAll_len {α β : Type} {p : α → β → Bool} : ∀ {xs : List α} {ys : List β}, xs.length ≠ ys.length → eqAll p xs ys = false
  | [], [], h => absurd rfl h
  | [], _ :: _, _ => rfl
  | _ :: _, [], _ => rfl
  | x :: xs, y :: ys, h => by
    rw [eqAll, eqAll_len (by intro e; exact h (by simp [e])), Bool.and_false]
theorem eqAll_drop {α β : Type} {p : α → β → Bool} {xs : List α} {ys : List β} {k : Nat} (h : k < xs.length) (h' : k < ys.length) : eqAll p (xs.drop k) (ys.drop k) = (p xs[k] ys[k] && eqAll p (xs.drop (k + 1)) (ys.drop (k + 1))) := by
  rw [List.drop_eq_getElem_cons h, List.drop_eq_getElem_cons h']
  rfl
set_option maxHeartbeats 2000000 in
set_option maxRecDepth 100000 in
theorem eqfV_any (p : Int → GVar → Bool) (g : Nat) (eg : ∀ args w, (callFunc g args).run Try.prog w = .ok (.enter g args) w) (v1 v2 : Value) (xs : List Int) (ys : List GVar) (w : World) (h1 : Rd oneI64 1 w v1 xs) (h2 : Rd encVar 4 w v2 ys)
    (hp : ∀ x y W, Calls Try.prog g #[.int .i64 x, .agg #[.string y.name, .int .u8 y.cls, .int .u8 y.ty, .int .i64 y.first]] W fun e w' => e = .returned (.bool (p x y)) ∧ Below W.heap.size W w') :
    Calls Try.prog 72 #[v1, v2, .func (.func g) #[] #[]] w fun e w' => e = .returned (.bool (eqAll p xs ys)) ∧ Below w.heap.size w w' := by
  obtain ⟨l1, A1, c1, rfl, hc1, _, r1⟩ := h1
  obtain ⟨l2, A2, c2, rfl, hc2, _, r2⟩ := h2
  have R1 := Fact.mk r1
  have R2 := Fact.mk r2
  have HP := Fact.mk hp
  clear r1 r2 hp
  by_cases hl : xs.length = ys.length
  · obtain ⟨r, hr⟩ : ∃ r, eqAll p xs ys = r := ⟨_, rfl⟩
    rw [hr]
    have HR0 : Fact (eqAll p (xs.drop 0) (ys.drop 0) = r) := ⟨hr⟩
    clear hr
    go_enter Try.func72, Try.ntmps72
    go_wp2_with fail
    have HL := Fact.mk hl
    clear hl
    go_loopw [17] (fun i wr => ∃ k : Nat, k ≤ xs.length ∧ i = .int .i64 k ∧ Fact (Below w.heap.size w wr) ∧ Fact (eqAll p (xs.drop k) (ys.drop k) = r)) (fun i _ => xs.length - (intOf i).toNat)
    case atStart => exact ⟨0, Nat.zero_le _, rfl, ⟨Below.refl _ _⟩, HR0⟩
    case round =>
      obtain ⟨k, hk, rfl, hB, hE⟩ := hrel
      by_cases hlt : k < xs.length
      · obtain ⟨b1, o1, rfl, q1⟩ := R1.out (by omega)
        obtain ⟨b2, o2, rfl, q2⟩ := R2.out (by have := HL.out; omega)
        have hlt2 : k < ys.length := HL.out ▸ hlt
        have p1 : wr.cell? ⟨b1, o1 + k, none⟩ = some (.int .i64 xs[k]) := cell_below hB.out _ _ (by
          have := q1 k hlt 0 _ rfl
          rwa [show o1 + k * 1 + 0 = o1 + k from by omega] at this)
        have d0 : wr.cell? ⟨b2, o2 + k * 4, none⟩ = some (.string ys[k].name) := cell_below hB.out _ _ (q2 k hlt2 0 _ rfl)
        have d1 : wr.cell? ⟨b2, o2 + k * 4 + 1, none⟩ = some (.int .u8 ys[k].cls) := cell_below hB.out _ _ (q2 k hlt2 1 _ rfl)
        have d2 : wr.cell? ⟨b2, o2 + k * 4 + 2, none⟩ = some (.int .u8 ys[k].ty) := cell_below hB.out _ _ (q2 k hlt2 2 _ rfl)
        have d3 : wr.cell? ⟨b2, o2 + k * 4 + 3, none⟩ = some (.int .i64 ys[k].first) := cell_below hB.out _ _ (q2 k hlt2 3 _ rfl)
        have hcall := HP.out xs[k] ys[k]
        have hE2 := hE.out
        rw [eqAll_drop hlt hlt2] at hE2
        clear q1 q2 hE
        have i1 : (k : Int) < (xs.length : Int) := by omega
        have i2 : (k : Int) < (ys.length : Int) := by omega
        generalize xs[k] = x at p1 hcall hE2
        generalize ys[k] = y at d0 d1 d2 d3 hcall hE2
        obtain ⟨b, hb⟩ : ∃ b, p x y = b := ⟨_, rfl⟩
        rw [hb] at hE2 hcall
        have HE := Fact.mk hE2
        have HC := Fact.mk hcall
        clear hb hE2 hcall
        cases b with
        | true =>
          go_wp2_with (go_at_fn g; refine (HC.out _).mono ?_; rintro e w' ⟨rfl, hb'⟩)
          have HB2 := Fact.mk ((hB.out.alloc hB.out.size _).trans (hb'.mono (hB.out.alloc hB.out.size _).size))
          go_roundw
          case rel => exact ⟨k + 1, by omega, by go_num, HB2, ⟨by have := HE.out; rwa [Bool.true_and] at this⟩⟩
          case measure => simp [intOf]; omega
        | false =>
          obtain rfl : false = r := by have := HE.out; rwa [Bool.false_and] at this
          go_wp2_with (go_at_fn g; refine (HC.out _).mono ?_; rintro e w' ⟨rfl, hb'⟩)
          go_ret
          exact ⟨rfl, (hB.out.alloc hB.out.size _).trans (hb'.mono (hB.out.alloc hB.out.size _).size)⟩
      · obtain rfl : k = xs.length := by omega
        have hx : ¬ xs.length < ys.length := by have := HL.out; omega
        obtain rfl : true = r := by
          have := hE.out
          rw [List.drop_length, HL.out, List.drop_length] at this
          exact this
        go_wp2_with fail
        go_ret
        exact ⟨rfl, hB.out⟩
  · rw [eqAll_len hl]
    go_enter Try.func72, Try.ntmps72
    go_wp2_with fail
    go_ret
    exact ⟨rfl, Below.refl _ _⟩
set_option maxHeartbeats 2000000 in
set_option maxRecDepth 100000 in
theorem eqfB_any (p : GBlock → Int → Bool) (g : Nat) (eg : ∀ args w, (callFunc g args).run Try.prog w = .ok (.enter g args) w) (v1 v2 : Value) (xs : List GBlock) (ys : List Int) (w : World) (h1 : Rd encBlk 10 w v1 xs) (h2 : Rd oneU8 1 w v2 ys)
    (hp : ∀ x y W, Calls Try.prog g #[vBlk x, .int .u8 y] W fun e w' => e = .returned (.bool (p x y)) ∧ Below W.heap.size W w') :
    Calls Try.prog 75 #[v1, v2, .func (.func g) #[] #[]] w fun e w' => e = .returned (.bool (eqAll p xs ys)) ∧ Below w.heap.size w w' := by
  obtain ⟨l1, A1, c1, rfl, hc1, _, r1⟩ := h1
  obtain ⟨l2, A2, c2, rfl, hc2, _, r2⟩ := h2
  have R1 := Fact.mk r1
  have R2 := Fact.mk r2
  have HP := Fact.mk hp
  clear r1 r2 hp
  by_cases hl : xs.length = ys.length
  · obtain ⟨r, hr⟩ : ∃ r, eqAll p xs ys = r := ⟨_, rfl⟩
    rw [hr]
    have HR0 : Fact (eqAll p (xs.drop 0) (ys.drop 0) = r) := ⟨hr⟩
    clear hr
    go_enter Try.func75, Try.ntmps75
    go_wp2_with fail
    have HL := Fact.mk hl
    clear hl
    go_loopw [17] (fun i wr => ∃ k : Nat, k ≤ xs.length ∧ i = .int .i64 k ∧ Fact (Below w.heap.size w wr) ∧ Fact (eqAll p (xs.drop k) (ys.drop k) = r)) (fun i _ => xs.length - (intOf i).toNat)
    case atStart => exact ⟨0, Nat.zero_le _, rfl, ⟨Below.refl _ _⟩, HR0⟩
    case round =>
      obtain ⟨k, hk, rfl, hB, hE⟩ := hrel
      by_cases hlt : k < xs.length
      · obtain ⟨b1, o1, rfl, q1⟩ := R1.out (by omega)
        obtain ⟨b2, o2, rfl, q2⟩ := R2.out (by have := HL.out; omega)
        have hlt2 : k < ys.length := HL.out ▸ hlt
        have p1 : wr.cell? ⟨b2, o2 + k, none⟩ = some (.int .u8 ys[k]) := cell_below hB.out _ _ (by
          have := q2 k hlt2 0 _ rfl
          rwa [show o2 + k * 1 + 0 = o2 + k from by omega] at this)
        have lb2 : b2 < wr.heap.size := World.block_lt_of_cell? wr _ p1
        have d0 : wr.cell? ⟨b1, o1 + k * 10, none⟩ = some (.int .u8 xs[k].kind) := cell_below hB.out _ _ (q1 k hlt 0 _ rfl)
        have d1 : wr.cell? ⟨b1, o1 + k * 10 + 1, none⟩ = some (.bool xs[k].w0) := cell_below hB.out _ _ (q1 k hlt 1 _ rfl)
        have d2 : wr.cell? ⟨b1, o1 + k * 10 + 2, none⟩ = some (.bool xs[k].w1) := cell_below hB.out _ _ (q1 k hlt 2 _ rfl)
        have d3 : wr.cell? ⟨b1, o1 + k * 10 + 3, none⟩ = some (.bool xs[k].ran) := cell_below hB.out _ _ (q1 k hlt 3 _ rfl)
        have d4 : wr.cell? ⟨b1, o1 + k * 10 + 4, none⟩ = some (.bool xs[k].going) := cell_below hB.out _ _ (q1 k hlt 4 _ rfl)
        have d5 : wr.cell? ⟨b1, o1 + k * 10 + 5, none⟩ = some (.int .i64 xs[k].frm) := cell_below hB.out _ _ (q1 k hlt 5 _ rfl)
        have d6 : wr.cell? ⟨b1, o1 + k * 10 + 6, none⟩ = some (.int .i64 xs[k].et) := cell_below hB.out _ _ (q1 k hlt 6 _ rfl)
        have d7 : wr.cell? ⟨b1, o1 + k * 10 + 7, none⟩ = some (.int .i64 xs[k].cv) := cell_below hB.out _ _ (q1 k hlt 7 _ rfl)
        have d8 : wr.cell? ⟨b1, o1 + k * 10 + 8, none⟩ = some (.bool xs[k].q) := cell_below hB.out _ _ (q1 k hlt 8 _ rfl)
        have d9 : wr.cell? ⟨b1, o1 + k * 10 + 9, none⟩ = some (.bool xs[k].p) := cell_below hB.out _ _ (q1 k hlt 9 _ rfl)
        have hcall := HP.out xs[k] ys[k]
        unfold vBlk at hcall
        have hE2 := hE.out
        rw [eqAll_drop hlt hlt2] at hE2
        clear q1 q2 hE
        have i1 : (k : Int) < (xs.length : Int) := by omega
        have i2 : (k : Int) < (ys.length : Int) := by omega
        generalize ys[k] = y at p1 hcall hE2
        generalize xs[k] = x at d0 d1 d2 d3 d4 d5 d6 d7 d8 d9 hcall hE2
        obtain ⟨b, hb⟩ : ∃ b, p x y = b := ⟨_, rfl⟩
        rw [hb] at hE2 hcall
        have HE := Fact.mk hE2
        have HC := Fact.mk hcall
        clear hb hE2 hcall
        cases b with
        | true =>
          go_wp2_with (go_at_fn g; refine (HC.out _).mono ?_; rintro e w' ⟨rfl, hb'⟩)
          have HB2 := Fact.mk ((hB.out.alloc hB.out.size _).trans (hb'.mono (hB.out.alloc hB.out.size _).size))
          go_roundw
          case rel => exact ⟨k + 1, by omega, by go_num, HB2, ⟨by have := HE.out; rwa [Bool.true_and] at this⟩⟩
          case measure => simp [intOf]; omega
        | false =>
          obtain rfl : false = r := by have := HE.out; rwa [Bool.false_and] at this
          go_wp2_with (go_at_fn g; refine (HC.out _).mono ?_; rintro e w' ⟨rfl, hb'⟩)
          go_ret
          exact ⟨rfl, (hB.out.alloc hB.out.size _).trans (hb'.mono (hB.out.alloc hB.out.size _).size)⟩
      · obtain rfl : k = xs.length := by omega
        have hx : ¬ xs.length < ys.length := by have := HL.out; omega
        obtain rfl : true = r := by
          have := hE.out
          rw [List.drop_length, HL.out, List.drop_length] at this
          exact this
        go_wp2_with fail
        go_ret
        exact ⟨rfl, hB.out⟩
  · rw [eqAll_len hl]
    go_enter Try.func75, Try.ntmps75
    go_wp2_with fail
    go_ret
    exact ⟨rfl, Below.refl _ _⟩
end Go.Proofs.Ytiogpainajokkaa

namespace Go.Proofs.Ytiogpainajokkaa
open Go.RowKit Go.Shelf
/-- A state's rows read as they should. -/
structure PlRd (w : World) (s : GPlant) (sv sb : Value) : Prop where
  v : Rd oneI64 1 w sv s.vars
  b : Rd encBlk 10 w sb s.blocks
theorem PlRd.below {w w' : World} {s : GPlant} {sv sb : Value} (h : PlRd w s sv sb) (hb : Below w.heap.size w w') : PlRd w' s sv sb := ⟨h.v.below hb, h.b.below hb⟩
theorem okIns_all : ∀ (vs : List GVar) (xs : List Int), okIns (vs.map (·.ty)) xs = eqAll (fun n v => inR v.ty n) xs vs
  | [], [] => rfl
  | [], _ :: _ => rfl
  | _ :: _, [] => rfl
  | v :: vs, x :: xs => by simp only [List.map_cons, okIns, eqAll, okIns_all vs xs]
theorem okBlks_all : ∀ (ks : List Int) (bs : List GBlock), okBlks ks bs = eqAll (fun b k => decide (b.kind = k) && rightBlk b) bs ks
  | [], [] => rfl
  | [], _ :: _ => rfl
  | _ :: _, [] => rfl
  | k :: ks, b :: bs => by simp only [okBlks, eqAll, okBlks_all ks bs]
theorem swithin_any (t n : Int) (w : World) : Calls Try.prog 74 #[.int .u8 t, .int .i64 n] w fun e w' => e = .returned (.bool (inR t n)) ∧ w = w' := by
  unfold inR
  go_enter Try.func74, Try.ntmps74
  go_wp2_with (go_at_call 90; refine (range_any _ _).mono ?_; rintro e w' ⟨rfl, rfl⟩)
  all_goals go_ret
  all_goals (refine ⟨?_, rfl⟩; first | (simp_all; done) | (simp_all; omega))
theorem fits1_any (n : Int) (v : GVar) (w : World) : Calls Try.prog 73 #[.int .i64 n, .agg #[.string v.name, .int .u8 v.cls, .int .u8 v.ty, .int .i64 v.first]] w fun e w' => e = .returned (.bool (inR v.ty n)) ∧ Below w.heap.size w w' := by
  obtain ⟨b1, b2, b3⟩ := one_block w (.cells #[.string v.name, .int .u8 v.cls, .int .u8 v.ty, .int .i64 v.first] 43)
  have k2 : (w.alloc (.cells #[.string v.name, .int .u8 v.cls, .int .u8 v.ty, .int .i64 v.first] 43)).cell? ⟨w.heap.size, 2, none⟩ = some (.int .u8 v.ty) := by rw [cell_of_row _ _ 2 _ _ _ b2]; rfl
  have B1 := Fact.mk b1
  clear b1 b2 b3
  go_enter Try.func73, Try.ntmps73
  go_wp2_with (go_at_call 74; refine (swithin_any _ _ _).mono ?_; rintro e w' ⟨rfl, rfl⟩)
  go_ret
  exact ⟨rfl, B1.out⟩
theorem fits2_any (b : GBlock) (k : Int) (w : World) : Calls Try.prog 76 #[vBlk b, .int .u8 k] w fun e w' => e = .returned (.bool (decide (b.kind = k) && rightBlk b)) ∧ Below w.heap.size w w' := by
  obtain ⟨b1, b2, b3⟩ := one_block w (.cells #[.int .u8 b.kind, .bool b.w0, .bool b.w1, .bool b.ran, .bool b.going, .int .i64 b.frm, .int .i64 b.et, .int .i64 b.cv, .bool b.q, .bool b.p] 67)
  obtain ⟨c0, c1, c2, c3, c4, c5, c6, c7, c8, c9, -⟩ := row10 b2
  have RB := Fact.mk (fun W => rblk_any b W)
  have B1 := Fact.mk b1
  clear b1 b2 b3
  unfold vBlk at RB ⊢
  by_cases hk : b.kind = k
  · have e1 : (b.kind == k) = true := beq_iff_eq.2 hk
    rw [decide_eq_true hk, Bool.true_and]
    clear hk
    go_enter Try.func76, Try.ntmps76
    go_wp2_with (go_at_call 77; refine (RB.out _).mono ?_; rintro e w' ⟨rfl, hb⟩)
    go_ret
    exact ⟨rfl, B1.out.trans (hb.mono B1.out.size)⟩
  · have e1 : (b.kind == k) = false := beq_eq_false_iff_ne.2 hk
    rw [decide_eq_false hk, Bool.false_and]
    clear hk
    go_enter Try.func76, Try.ntmps76
    go_wp2_with fail
    go_ret
    exact ⟨rfl, B1.out⟩
set_option maxHeartbeats 1000000 in
set_option maxRecDepth 100000 in
theorem sfits_any (c : GCode) (s : GPlant) (vs bs is sv sb : Value) (w : World) (h : CodeRd w c vs bs is) (hs : PlRd w s sv sb) :
    Calls Try.prog 46 #[.agg #[.string c.name, vs, bs, is], .agg #[sv, sb]] w fun e w' => e = .returned (.bool (fitsS c s)) ∧ Below w.heap.size w w' := by
  obtain ⟨A1, c1, rfl⟩ : ∃ A c', vs = .slice A c.vars.length c' := by obtain ⟨_, A, c', h, _⟩ := h.vars; exact ⟨A, c', h⟩
  obtain ⟨A2, c2, rfl⟩ : ∃ A c', bs = .slice A c.blocks.length c' := by obtain ⟨_, A, c', h, _⟩ := h.blocks; exact ⟨A, c', h⟩
  obtain ⟨A3, c3, rfl⟩ : ∃ A c', is = .slice A c.ins.length c' := by obtain ⟨_, A, c', h, _⟩ := h.ins; exact ⟨A, c', h⟩
  obtain ⟨A4, c4, rfl⟩ : ∃ A c', sv = .slice A s.vars.length c' := by obtain ⟨_, A, c', h, _⟩ := hs.v; exact ⟨A, c', h⟩
  obtain ⟨A5, c5, rfl⟩ : ∃ A c', sb = .slice A s.blocks.length c' := by obtain ⟨_, A, c', h, _⟩ := hs.b; exact ⟨A, c', h⟩
  have TB := two_blocks w (.cells #[.string c.name, .slice A1 c.vars.length c1, .slice A2 c.blocks.length c2, .slice A3 c.ins.length c3] 26) (.cells #[.slice A4 s.vars.length c4, .slice A5 s.blocks.length c5] 34)
  have B2 := Fact.mk TB.1
  have R2 := Fact.mk TB.2.1
  have R3 := Fact.mk TB.2.2.1
  have Z2 := Fact.mk TB.2.2.2
  have EV := Fact.mk (fun W (hW : Below w.heap.size w W) => eqfV_any (fun n v => inR v.ty n) 73 (enters_of Try.func73 (by kernel_rfl) rfl) _ _ s.vars c.vars W (hs.v.below hW) (h.vars.below hW) (fun x y W => fits1_any x y W))
  have EB := Fact.mk (fun W (hW : Below w.heap.size w W) => eqfB_any (fun b k => decide (b.kind = k) && rightBlk b) 76 (enters_of Try.func76 (by kernel_rfl) rfl) _ _ s.blocks c.blocks W (hs.b.below hW) (h.blocks.below hW) (fun x y W => fits2_any x y W))
  have c1' : ((w.alloc (.cells #[.string c.name, .slice A1 c.vars.length c1, .slice A2 c.blocks.length c2, .slice A3 c.ins.length c3] 26)).alloc (.cells #[.slice A4 s.vars.length c4, .slice A5 s.blocks.length c5] 34)).cell? ⟨w.heap.size, 1, none⟩ = some (.slice A1 c.vars.length c1) := by rw [cell_of_row _ _ 1 _ _ _ TB.2.1]; rfl
  have c4' : ((w.alloc (.cells #[.string c.name, .slice A1 c.vars.length c1, .slice A2 c.blocks.length c2, .slice A3 c.ins.length c3] 26)).alloc (.cells #[.slice A4 s.vars.length c4, .slice A5 s.blocks.length c5] 34)).cell? ⟨w.heap.size + 1, 0, none⟩ = some (.slice A4 s.vars.length c4) := by rw [cell_of_row _ _ 0 _ _ _ TB.2.2.1]; rfl
  clear TB h hs
  have hF : fitsS c s = (eqAll (fun n v => inR v.ty n) s.vars c.vars && eqAll (fun b k => decide (b.kind = k) && rightBlk b) s.blocks c.blocks) := by
    unfold fitsS tysOf
    rw [okIns_all, okBlks_all]
  rw [hF]
  clear hF
  go_enter Try.func46, Try.ntmps46
  go_wp2_with fail
  refine (EV.out _ B2.out).mono ?_
  rintro e W1 ⟨rfl, hb1⟩
  have B3 := Fact.mk (B2.out.trans (hb1.mono B2.out.size))
  have k2 : W1.cell? ⟨w.heap.size, 2, none⟩ = some (.slice A2 c.blocks.length c2) := cell_below hb1 _ _ (by rw [cell_of_row _ _ 2 _ _ _ R2.out]; rfl)
  have k5 : W1.cell? ⟨w.heap.size + 1, 1, none⟩ = some (.slice A5 s.blocks.length c5) := cell_below hb1 _ _ (by rw [cell_of_row _ _ 1 _ _ _ R3.out]; rfl)
  have l1 : w.heap.size + 1 < W1.heap.size := by have := hb1.size; rw [Z2.out] at this; omega
  obtain ⟨r1, hr1⟩ : ∃ r, eqAll (fun n v => inR v.ty n) s.vars c.vars = r := ⟨_, rfl⟩
  rw [hr1]
  have HR := Fact.mk hr1
  clear hr1 hb1 c1' c4'
  cases r1 with
  | true =>
    go_wp2_with fail
    refine (EB.out _ B3.out).mono ?_
    rintro e W2 ⟨rfl, hb2⟩
    have B4 := Fact.mk (B3.out.trans (hb2.mono B3.out.size))
    clear hb2
    go_wp2
    go_ret
    exact ⟨ret_bool (by rw [HR.out, Bool.true_and]), B4.out⟩
  | false =>
    go_wp2
    go_ret
    exact ⟨ret_bool (by rw [HR.out, Bool.false_and]), B3.out⟩
end Go.Proofs.Ytiogpainajokkaa

