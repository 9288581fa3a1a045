/- The contract of blockhouselaw15.awake: the chapter's examples come out. -/
import Derived.Test.YtjanofopmmndoaaSame64
import Derived.Test.YtjanofopmmndoaaRan
namespace Go.Proofs.Ytjanofopmmndoaa
open Go.RowKit
theorem alloc_rd (w : World) (N : Nat) (hN : w.heap.size = N) (xs : List Int) (T : TypeId) (hl : xs.length ≤ 100) : ∃ w1, w.alloc (.cells (xs.flatMap oneI64).toArray T) = w1 ∧ w1.heap.size = N + 1 ∧ Below w.heap.size w w1 ∧ Rd oneI64 1 w1 (.slice (some ⟨N, 0, none⟩) xs.length xs.length) xs := by
  subst hN
  exact ⟨_, rfl, by simp, (Below.refl _ _).alloc (Nat.le_refl _) _, rd_new oneI64 1 oneI64_len w xs T (by omega)⟩
theorem alloc_rd2 (w : World) (N : Nat) (hN : w.heap.size = N) (us : List Value) (xss : List (List Int)) (T : TypeId) (hl : xss.length ≤ 100) (hu : us.length = xss.length) (h : ∀ j (h1 : j < us.length) (h2 : j < xss.length), Rd oneI64 1 w us[j] xss[j]) :
    ∃ w1, w.alloc (.cells us.toArray T) = w1 ∧ w1.heap.size = N + 1 ∧ Below w.heap.size w w1 ∧ Rd2 w1 (.slice (some ⟨N, 0, none⟩) xss.length xss.length) xss := by
  subst hN
  have hb : Below w.heap.size w (w.alloc (.cells us.toArray T)) := (Below.refl _ _).alloc (Nat.le_refl _) _
  refine ⟨_, rfl, by simp, hb, by omega, _, _, rfl, fun j hj => ⟨w.heap.size, 0, us[j]'(by omega), rfl, ?_, (h j (by omega) hj).below hb⟩⟩
  rw [cell_of_row _ _ _ _ _ (0, 0) (heap_alloc_new w _)]
  simp [show j < us.length by omega]
inductive RdAll (w : World) : List Value → List (List Int) → Prop
  | nil : RdAll w [] []
  | cons {u : Value} {us : List Value} {xs : List Int} {xss : List (List Int)} : Rd oneI64 1 w u xs → RdAll w us xss → RdAll w (u :: us) (xs :: xss)
theorem rd2_cases {w : World} {us : List Value} {xss : List (List Int)} (h : RdAll w us xss) : us.length = xss.length ∧ ∀ j (h1 : j < us.length) (h2 : j < xss.length), Rd oneI64 1 w us[j] xss[j] := by
  induction h with
  | nil => exact ⟨rfl, fun j h1 _ => absurd h1 (by simp)⟩
  | cons h0 _ ih =>
    refine ⟨by simp [ih.1], fun j h1 h2 => ?_⟩
    cases j with
    | zero => exact h0
    | succ j => exact ih.2 j (by simpa using h1) (by simpa using h2)
theorem awk_world (w : World) : ∃ W, (((((((((((((((w.alloc (Obj.cells #[.int .i64 10, .int .i64 14, .int .i64 15, .int .i64 16] 2)).alloc (Obj.cells #[.int .i64 1, .int .i64 5] 2)).alloc (Obj.cells #[.int .i64 1, .int .i64 5] 2)).alloc (Obj.cells #[.int .i64 1, .int .i64 5] 2)).alloc (Obj.cells #[.int .i64 0, .int .i64 5] 2)).alloc (Obj.cells #[.slice (some ⟨w.heap.size + 1, 0, none⟩) 2 2, .slice (some ⟨w.heap.size + 1 + 1, 0, none⟩) 2 2, .slice (some ⟨w.heap.size + 1 + 1 + 1, 0, none⟩) 2 2, .slice (some ⟨w.heap.size + 1 + 1 + 1 + 1, 0, none⟩) 2 2] 32)).alloc (Obj.cells #[.int .i64 1, .int .i64 0, .int .i64 2] 2)).alloc (Obj.cells #[.int .i64 0, .int .i64 0, .int .i64 2] 2)).alloc (Obj.cells #[.int .i64 1, .int .i64 0, .int .i64 2] 2)).alloc (Obj.cells #[.slice (some ⟨w.heap.size + 1 + 1 + 1 + 1 + 1 + 1, 0, none⟩) 3 3, .slice (some ⟨w.heap.size + 1 + 1 + 1 + 1 + 1 + 1 + 1, 0, none⟩) 3 3, .slice (some ⟨w.heap.size + 1 + 1 + 1 + 1 + 1 + 1 + 1 + 1, 0, none⟩) 3 3] 32)).alloc (Obj.cells #[.int .i64 0, .int .i64 0, .int .i64 0] 2)).alloc (Obj.cells #[.int .i64 1, .int .i64 0, .int .i64 0] 2)).alloc (Obj.cells #[.int .i64 1, .int .i64 1, .int .i64 0] 2)).alloc (Obj.cells #[.int .i64 0, .int .i64 0, .int .i64 0] 2)).alloc (Obj.cells #[.slice (some ⟨w.heap.size + 1 + 1 + 1 + 1 + 1 + 1 + 1 + 1 + 1 + 1, 0, none⟩) 3 3, .slice (some ⟨w.heap.size + 1 + 1 + 1 + 1 + 1 + 1 + 1 + 1 + 1 + 1 + 1, 0, none⟩) 3 3, .slice (some ⟨w.heap.size + 1 + 1 + 1 + 1 + 1 + 1 + 1 + 1 + 1 + 1 + 1 + 1, 0, none⟩) 3 3, .slice (some ⟨w.heap.size + 1 + 1 + 1 + 1 + 1 + 1 + 1 + 1 + 1 + 1 + 1 + 1 + 1, 0, none⟩) 3 3] 32)) = W ∧ Below w.heap.size w W ∧ Rd oneI64 1 W (.slice (some ⟨w.heap.size, 0, none⟩) 4 4) [10, 14, 15, 16] ∧ Rd2 W (.slice (some ⟨w.heap.size + 1 + 1 + 1 + 1 + 1, 0, none⟩) 4 4) [[1, 5], [1, 5], [1, 5], [0, 5]] ∧ Rd2 W (.slice (some ⟨w.heap.size + 1 + 1 + 1 + 1 + 1 + 1 + 1 + 1 + 1, 0, none⟩) 3 3) [[1, 0, 2], [0, 0, 2], [1, 0, 2]] ∧ Rd2 W (.slice (some ⟨w.heap.size + 1 + 1 + 1 + 1 + 1 + 1 + 1 + 1 + 1 + 1 + 1 + 1 + 1 + 1, 0, none⟩) 4 4) [[0, 0, 0], [1, 0, 0], [1, 1, 0], [0, 0, 0]] := by
  obtain ⟨w1, e1, s1, b1, r1⟩ := alloc_rd w (w.heap.size) rfl [10, 14, 15, 16] 2 (by decide)
  have e1 : w.alloc (Obj.cells #[.int .i64 10, .int .i64 14, .int .i64 15, .int .i64 16] 2) = w1 := e1
  obtain ⟨w2, e2, s2, b2, r2⟩ := alloc_rd w1 (w.heap.size + 1) s1 [1, 5] 2 (by decide)
  have e2 : w1.alloc (Obj.cells #[.int .i64 1, .int .i64 5] 2) = w2 := e2
  obtain ⟨w3, e3, s3, b3, r3⟩ := alloc_rd w2 (w.heap.size + 1 + 1) s2 [1, 5] 2 (by decide)
  have e3 : w2.alloc (Obj.cells #[.int .i64 1, .int .i64 5] 2) = w3 := e3
  obtain ⟨w4, e4, s4, b4, r4⟩ := alloc_rd w3 (w.heap.size + 1 + 1 + 1) s3 [1, 5] 2 (by decide)
  have e4 : w3.alloc (Obj.cells #[.int .i64 1, .int .i64 5] 2) = w4 := e4
  obtain ⟨w5, e5, s5, b5, r5⟩ := alloc_rd w4 (w.heap.size + 1 + 1 + 1 + 1) s4 [0, 5] 2 (by decide)
  have e5 : w4.alloc (Obj.cells #[.int .i64 0, .int .i64 5] 2) = w5 := e5
  have f5 := rd2_cases (us := [.slice (some ⟨w.heap.size + 1, 0, none⟩) 2 2, .slice (some ⟨w.heap.size + 1 + 1, 0, none⟩) 2 2, .slice (some ⟨w.heap.size + 1 + 1 + 1, 0, none⟩) 2 2, .slice (some ⟨w.heap.size + 1 + 1 + 1 + 1, 0, none⟩) 2 2]) (xss := [[1, 5], [1, 5], [1, 5], [0, 5]]) (RdAll.cons (((r2.below b3).below b4).below b5) (RdAll.cons ((r3.below b4).below b5) (RdAll.cons (r4.below b5) (RdAll.cons r5 RdAll.nil))))
  obtain ⟨w6, e6, s6, b6, r6⟩ := alloc_rd2 w5 (w.heap.size + 1 + 1 + 1 + 1 + 1) s5 [.slice (some ⟨w.heap.size + 1, 0, none⟩) 2 2, .slice (some ⟨w.heap.size + 1 + 1, 0, none⟩) 2 2, .slice (some ⟨w.heap.size + 1 + 1 + 1, 0, none⟩) 2 2, .slice (some ⟨w.heap.size + 1 + 1 + 1 + 1, 0, none⟩) 2 2] [[1, 5], [1, 5], [1, 5], [0, 5]] 32 (by decide) f5.1 f5.2
  have e6 : w5.alloc (Obj.cells #[.slice (some ⟨w.heap.size + 1, 0, none⟩) 2 2, .slice (some ⟨w.heap.size + 1 + 1, 0, none⟩) 2 2, .slice (some ⟨w.heap.size + 1 + 1 + 1, 0, none⟩) 2 2, .slice (some ⟨w.heap.size + 1 + 1 + 1 + 1, 0, none⟩) 2 2] 32) = w6 := e6
  obtain ⟨w7, e7, s7, b7, r7⟩ := alloc_rd w6 (w.heap.size + 1 + 1 + 1 + 1 + 1 + 1) s6 [1, 0, 2] 2 (by decide)
  have e7 : w6.alloc (Obj.cells #[.int .i64 1, .int .i64 0, .int .i64 2] 2) = w7 := e7
  obtain ⟨w8, e8, s8, b8, r8⟩ := alloc_rd w7 (w.heap.size + 1 + 1 + 1 + 1 + 1 + 1 + 1) s7 [0, 0, 2] 2 (by decide)
  have e8 : w7.alloc (Obj.cells #[.int .i64 0, .int .i64 0, .int .i64 2] 2) = w8 := e8
  obtain ⟨w9, e9, s9, b9, r9⟩ := alloc_rd w8 (w.heap.size + 1 + 1 + 1 + 1 + 1 + 1 + 1 + 1) s8 [1, 0, 2] 2 (by decide)
  have e9 : w8.alloc (Obj.cells #[.int .i64 1, .int .i64 0, .int .i64 2] 2) = w9 := e9
  have f9 := rd2_cases (us := [.slice (some ⟨w.heap.size + 1 + 1 + 1 + 1 + 1 + 1, 0, none⟩) 3 3, .slice (some ⟨w.heap.size + 1 + 1 + 1 + 1 + 1 + 1 + 1, 0, none⟩) 3 3, .slice (some ⟨w.heap.size + 1 + 1 + 1 + 1 + 1 + 1 + 1 + 1, 0, none⟩) 3 3]) (xss := [[1, 0, 2], [0, 0, 2], [1, 0, 2]]) (RdAll.cons ((r7.below b8).below b9) (RdAll.cons (r8.below b9) (RdAll.cons r9 RdAll.nil)))
  obtain ⟨w10, e10, s10, b10, r10⟩ := alloc_rd2 w9 (w.heap.size + 1 + 1 + 1 + 1 + 1 + 1 + 1 + 1 + 1) s9 [.slice (some ⟨w.heap.size + 1 + 1 + 1 + 1 + 1 + 1, 0, none⟩) 3 3, .slice (some ⟨w.heap.size + 1 + 1 + 1 + 1 + 1 + 1 + 1, 0, none⟩) 3 3, .slice (some ⟨w.heap.size + 1 + 1 + 1 + 1 + 1 + 1 + 1 + 1, 0, none⟩) 3 3] [[1, 0, 2], [0, 0, 2], [1, 0, 2]] 32 (by decide) f9.1 f9.2
  have e10 : w9.alloc (Obj.cells #[.slice (some ⟨w.heap.size + 1 + 1 + 1 + 1 + 1 + 1, 0, none⟩) 3 3, .slice (some ⟨w.heap.size + 1 + 1 + 1 + 1 + 1 + 1 + 1, 0, none⟩) 3 3, .slice (some ⟨w.heap.size + 1 + 1 + 1 + 1 + 1 + 1 + 1 + 1, 0, none⟩) 3 3] 32) = w10 := e10
  obtain ⟨w11, e11, s11, b11, r11⟩ := alloc_rd w10 (w.heap.size + 1 + 1 + 1 + 1 + 1 + 1 + 1 + 1 + 1 + 1) s10 [0, 0, 0] 2 (by decide)
  have e11 : w10.alloc (Obj.cells #[.int .i64 0, .int .i64 0, .int .i64 0] 2) = w11 := e11
  obtain ⟨w12, e12, s12, b12, r12⟩ := alloc_rd w11 (w.heap.size + 1 + 1 + 1 + 1 + 1 + 1 + 1 + 1 + 1 + 1 + 1) s11 [1, 0, 0] 2 (by decide)
  have e12 : w11.alloc (Obj.cells #[.int .i64 1, .int .i64 0, .int .i64 0] 2) = w12 := e12
  obtain ⟨w13, e13, s13, b13, r13⟩ := alloc_rd w12 (w.heap.size + 1 + 1 + 1 + 1 + 1 + 1 + 1 + 1 + 1 + 1 + 1 + 1) s12 [1, 1, 0] 2 (by decide)
  have e13 : w12.alloc (Obj.cells #[.int .i64 1, .int .i64 1, .int .i64 0] 2) = w13 := e13
  obtain ⟨w14, e14, s14, b14, r14⟩ := alloc_rd w13 (w.heap.size + 1 + 1 + 1 + 1 + 1 + 1 + 1 + 1 + 1 + 1 + 1 + 1 + 1) s13 [0, 0, 0] 2 (by decide)
  have e14 : w13.alloc (Obj.cells #[.int .i64 0, .int .i64 0, .int .i64 0] 2) = w14 := e14
  have f14 := rd2_cases (us := [.slice (some ⟨w.heap.size + 1 + 1 + 1 + 1 + 1 + 1 + 1 + 1 + 1 + 1, 0, none⟩) 3 3, .slice (some ⟨w.heap.size + 1 + 1 + 1 + 1 + 1 + 1 + 1 + 1 + 1 + 1 + 1, 0, none⟩) 3 3, .slice (some ⟨w.heap.size + 1 + 1 + 1 + 1 + 1 + 1 + 1 + 1 + 1 + 1 + 1 + 1, 0, none⟩) 3 3, .slice (some ⟨w.heap.size + 1 + 1 + 1 + 1 + 1 + 1 + 1 + 1 + 1 + 1 + 1 + 1 + 1, 0, none⟩) 3 3]) (xss := [[0, 0, 0], [1, 0, 0], [1, 1, 0], [0, 0, 0]]) (RdAll.cons (((r11.below b12).below b13).below b14) (RdAll.cons ((r12.below b13).below b14) (RdAll.cons (r13.below b14) (RdAll.cons r14 RdAll.nil))))
  obtain ⟨w15, e15, s15, b15, r15⟩ := alloc_rd2 w14 (w.heap.size + 1 + 1 + 1 + 1 + 1 + 1 + 1 + 1 + 1 + 1 + 1 + 1 + 1 + 1) s14 [.slice (some ⟨w.heap.size + 1 + 1 + 1 + 1 + 1 + 1 + 1 + 1 + 1 + 1, 0, none⟩) 3 3, .slice (some ⟨w.heap.size + 1 + 1 + 1 + 1 + 1 + 1 + 1 + 1 + 1 + 1 + 1, 0, none⟩) 3 3, .slice (some ⟨w.heap.size + 1 + 1 + 1 + 1 + 1 + 1 + 1 + 1 + 1 + 1 + 1 + 1, 0, none⟩) 3 3, .slice (some ⟨w.heap.size + 1 + 1 + 1 + 1 + 1 + 1 + 1 + 1 + 1 + 1 + 1 + 1 + 1, 0, none⟩) 3 3] [[0, 0, 0], [1, 0, 0], [1, 1, 0], [0, 0, 0]] 32 (by decide) f14.1 f14.2
  have e15 : w14.alloc (Obj.cells #[.slice (some ⟨w.heap.size + 1 + 1 + 1 + 1 + 1 + 1 + 1 + 1 + 1 + 1, 0, none⟩) 3 3, .slice (some ⟨w.heap.size + 1 + 1 + 1 + 1 + 1 + 1 + 1 + 1 + 1 + 1 + 1, 0, none⟩) 3 3, .slice (some ⟨w.heap.size + 1 + 1 + 1 + 1 + 1 + 1 + 1 + 1 + 1 + 1 + 1 + 1, 0, none⟩) 3 3, .slice (some ⟨w.heap.size + 1 + 1 + 1 + 1 + 1 + 1 + 1 + 1 + 1 + 1 + 1 + 1 + 1, 0, none⟩) 3 3] 32) = w15 := e15
  refine ⟨w15, ?_, ((((((((((((((b1.trans (b2.mono (by rw [s1]; omega))).trans (b3.mono (by rw [s2]; omega))).trans (b4.mono (by rw [s3]; omega))).trans (b5.mono (by rw [s4]; omega))).trans (b6.mono (by rw [s5]; omega))).trans (b7.mono (by rw [s6]; omega))).trans (b8.mono (by rw [s7]; omega))).trans (b9.mono (by rw [s8]; omega))).trans (b10.mono (by rw [s9]; omega))).trans (b11.mono (by rw [s10]; omega))).trans (b12.mono (by rw [s11]; omega))).trans (b13.mono (by rw [s12]; omega))).trans (b14.mono (by rw [s13]; omega))).trans (b15.mono (by rw [s14]; omega))), ((((((((((((((r1.below b2).below b3).below b4).below b5).below b6).below b7).below b8).below b9).below b10).below b11).below b12).below b13).below b14).below b15), (((((((((r6.below b7).below b8).below b9).below b10).below b11).below b12).below b13).below b14).below b15), (((((r10.below b11).below b12).below b13).below b14).below b15), r15⟩
  rw [e1, e2, e3, e4, e5, e6, e7, e8, e9, e10, e11, e12, e13, e14, e15]
theorem eg0 : ranL 1 (newB 1) [10, 14, 15, 16] [[1, 5], [1, 5], [1, 5], [0, 5]] = some [0, 4, 5, 0] := by kernel_rfl
theorem ed0 : decide (([0, 4, 5, 0] : List Int) = [0, 4, 5, 0]) = true := by decide
theorem eg1 : ranL 0 (newB 1) [10, 14, 15, 16] [[1, 5], [1, 5], [1, 5], [0, 5]] = some [0, 0, 1, 0] := by kernel_rfl
theorem ed1 : decide (([0, 0, 1, 0] : List Int) = [0, 0, 1, 0]) = true := by decide
theorem eg2 : ranL 1 (newB 4) [10, 14, 15, 16] [[1, 0, 2], [0, 0, 2], [1, 0, 2]] = some [1, 1, 2] := by kernel_rfl
theorem ed2 : decide (([1, 1, 2] : List Int) = [1, 1, 2]) = true := by decide
theorem eg3 : ranL 0 (newB 4) [10, 14, 15, 16] [[1, 0, 2], [0, 0, 2], [1, 0, 2]] = some [0, 0, 1] := by kernel_rfl
theorem ed3 : decide (([0, 0, 1] : List Int) = [0, 0, 1]) = true := by decide
theorem eg4 : ranL 0 (newB 11) [10, 14, 15, 16] [[0, 0, 0], [1, 0, 0], [1, 1, 0], [0, 0, 0]] = some [0, 1, 2, 2] := by kernel_rfl
theorem ed4 : decide (([0, 1, 2, 2] : List Int) = [0, 1, 2, 2]) = true := by decide
theorem eg5 : ranL 1 (newB 11) [10, 14, 15, 16] [[0, 0, 0], [1, 0, 0], [1, 1, 0], [0, 0, 0]] = some [0, 0, 0, 1] := by kernel_rfl
theorem ed5 : decide (([0, 0, 0, 1] : List Int) = [0, 0, 0, 1]) = true := by decide
set_option maxHeartbeats 4000000 in
set_option maxRecDepth 100000 in
theorem awk_any (w : World) : Calls Try.prog 20 #[] w fun e w' => e = .returned (.bool true) ∧ Below w.heap.size w w' := by
  obtain ⟨W0, hW0, hB0, hat, hon, hup, htu⟩ := awk_world w
  have HW0 := Fact.mk hW0
  have B0 := Fact.mk hB0
  have A0 := Fact.mk hat
  have O0 := Fact.mk hon
  have U0 := Fact.mk hup
  have T0 := Fact.mk htu
  clear hW0 hB0 hat hon hup htu
  go_enter Try.func20, Try.ntmps20
  go_wp2_with fail
  rw [HW0.out]
  clear HW0
  refine (ran_any 1 (by decide) (by decide) 1 [10, 14, 15, 16] [[1, 5], [1, 5], [1, 5], [0, 5]] _ _ W0 A0.out O0.out [0, 4, 5, 0] eg0 (by decide)).mono ?_
  rintro e W1 ⟨v0, rfl, hr0, hb0⟩
  have hx0 := (Below.refl W1.heap.size W1).alloc (Nat.le_refl _) (Obj.cells #[.int .i64 0, .int .i64 4, .int .i64 5, .int .i64 0] 2)
  have R0 := Fact.mk (hr0.below hx0)
  have HB0 := Fact.mk hb0
  have HX0 := Fact.mk hx0
  clear hr0 hb0 hx0
  go_wp2_with fail
  refine (same64_any _ _ _ [0, 4, 5, 0] [0, 4, 5, 0] R0.out (rd_new oneI64 1 oneI64_len W1 [0, 4, 5, 0] 2 (by decide))).mono ?_
  rintro e W2 ⟨rfl, hc0⟩
  rw [ed0]
  have hd0 : Below W0.heap.size W0 W2 := (HB0.out.trans (HX0.out.mono HB0.out.size)).trans (hc0.mono (by have := HB0.out.size; have := HX0.out.size; omega))
  have A2 := Fact.mk (A0.out.below hd0)
  have O2 := Fact.mk (O0.out.below hd0)
  have U2 := Fact.mk (U0.out.below hd0)
  have T2 := Fact.mk (T0.out.below hd0)
  have B2 := Fact.mk (B0.out.trans (hd0.mono B0.out.size))
  clear hc0 hd0 R0 HB0 HX0 A0 O0 U0 T0 B0
  go_wp2_with fail
  refine (ran_any 1 (by decide) (by decide) 0 [10, 14, 15, 16] [[1, 5], [1, 5], [1, 5], [0, 5]] _ _ W2 A2.out O2.out [0, 0, 1, 0] eg1 (by decide)).mono ?_
  rintro e W3 ⟨v1, rfl, hr1, hb1⟩
  have hx1 := (Below.refl W3.heap.size W3).alloc (Nat.le_refl _) (Obj.cells #[.int .i64 0, .int .i64 0, .int .i64 1, .int .i64 0] 2)
  have R1 := Fact.mk (hr1.below hx1)
  have HB1 := Fact.mk hb1
  have HX1 := Fact.mk hx1
  clear hr1 hb1 hx1
  go_wp2_with fail
  refine (same64_any _ _ _ [0, 0, 1, 0] [0, 0, 1, 0] R1.out (rd_new oneI64 1 oneI64_len W3 [0, 0, 1, 0] 2 (by decide))).mono ?_
  rintro e W4 ⟨rfl, hc1⟩
  rw [ed1]
  have hd1 : Below W2.heap.size W2 W4 := (HB1.out.trans (HX1.out.mono HB1.out.size)).trans (hc1.mono (by have := HB1.out.size; have := HX1.out.size; omega))
  have A4 := Fact.mk (A2.out.below hd1)
  have O4 := Fact.mk (O2.out.below hd1)
  have U4 := Fact.mk (U2.out.below hd1)
  have T4 := Fact.mk (T2.out.below hd1)
  have B4 := Fact.mk (B2.out.trans (hd1.mono B2.out.size))
  clear hc1 hd1 R1 HB1 HX1 A2 O2 U2 T2 B2
  go_wp2_with fail
  refine (ran_any 4 (by decide) (by decide) 1 [10, 14, 15, 16] [[1, 0, 2], [0, 0, 2], [1, 0, 2]] _ _ W4 A4.out U4.out [1, 1, 2] eg2 (by decide)).mono ?_
  rintro e W5 ⟨v2, rfl, hr2, hb2⟩
  have hx2 := (Below.refl W5.heap.size W5).alloc (Nat.le_refl _) (Obj.cells #[.int .i64 1, .int .i64 1, .int .i64 2] 2)
  have R2 := Fact.mk (hr2.below hx2)
  have HB2 := Fact.mk hb2
  have HX2 := Fact.mk hx2
  clear hr2 hb2 hx2
  go_wp2_with fail
  refine (same64_any _ _ _ [1, 1, 2] [1, 1, 2] R2.out (rd_new oneI64 1 oneI64_len W5 [1, 1, 2] 2 (by decide))).mono ?_
  rintro e W6 ⟨rfl, hc2⟩
  rw [ed2]
  have hd2 : Below W4.heap.size W4 W6 := (HB2.out.trans (HX2.out.mono HB2.out.size)).trans (hc2.mono (by have := HB2.out.size; have := HX2.out.size; omega))
  have A6 := Fact.mk (A4.out.below hd2)
  have O6 := Fact.mk (O4.out.below hd2)
  have U6 := Fact.mk (U4.out.below hd2)
  have T6 := Fact.mk (T4.out.below hd2)
  have B6 := Fact.mk (B4.out.trans (hd2.mono B4.out.size))
  clear hc2 hd2 R2 HB2 HX2 A4 O4 U4 T4 B4
  go_wp2_with fail
  refine (ran_any 4 (by decide) (by decide) 0 [10, 14, 15, 16] [[1, 0, 2], [0, 0, 2], [1, 0, 2]] _ _ W6 A6.out U6.out [0, 0, 1] eg3 (by decide)).mono ?_
  rintro e W7 ⟨v3, rfl, hr3, hb3⟩
  have hx3 := (Below.refl W7.heap.size W7).alloc (Nat.le_refl _) (Obj.cells #[.int .i64 0, .int .i64 0, .int .i64 1] 2)
  have R3 := Fact.mk (hr3.below hx3)
  have HB3 := Fact.mk hb3
  have HX3 := Fact.mk hx3
  clear hr3 hb3 hx3
  go_wp2_with fail
  refine (same64_any _ _ _ [0, 0, 1] [0, 0, 1] R3.out (rd_new oneI64 1 oneI64_len W7 [0, 0, 1] 2 (by decide))).mono ?_
  rintro e W8 ⟨rfl, hc3⟩
  rw [ed3]
  have hd3 : Below W6.heap.size W6 W8 := (HB3.out.trans (HX3.out.mono HB3.out.size)).trans (hc3.mono (by have := HB3.out.size; have := HX3.out.size; omega))
  have A8 := Fact.mk (A6.out.below hd3)
  have O8 := Fact.mk (O6.out.below hd3)
  have U8 := Fact.mk (U6.out.below hd3)
  have T8 := Fact.mk (T6.out.below hd3)
  have B8 := Fact.mk (B6.out.trans (hd3.mono B6.out.size))
  clear hc3 hd3 R3 HB3 HX3 A6 O6 U6 T6 B6
  go_wp2_with fail
  refine (ran_any 11 (by decide) (by decide) 0 [10, 14, 15, 16] [[0, 0, 0], [1, 0, 0], [1, 1, 0], [0, 0, 0]] _ _ W8 A8.out T8.out [0, 1, 2, 2] eg4 (by decide)).mono ?_
  rintro e W9 ⟨v4, rfl, hr4, hb4⟩
  have hx4 := (Below.refl W9.heap.size W9).alloc (Nat.le_refl _) (Obj.cells #[.int .i64 0, .int .i64 1, .int .i64 2, .int .i64 2] 2)
  have R4 := Fact.mk (hr4.below hx4)
  have HB4 := Fact.mk hb4
  have HX4 := Fact.mk hx4
  clear hr4 hb4 hx4
  go_wp2_with fail
  refine (same64_any _ _ _ [0, 1, 2, 2] [0, 1, 2, 2] R4.out (rd_new oneI64 1 oneI64_len W9 [0, 1, 2, 2] 2 (by decide))).mono ?_
  rintro e W10 ⟨rfl, hc4⟩
  rw [ed4]
  have hd4 : Below W8.heap.size W8 W10 := (HB4.out.trans (HX4.out.mono HB4.out.size)).trans (hc4.mono (by have := HB4.out.size; have := HX4.out.size; omega))
  have A10 := Fact.mk (A8.out.below hd4)
  have O10 := Fact.mk (O8.out.below hd4)
  have U10 := Fact.mk (U8.out.below hd4)
  have T10 := Fact.mk (T8.out.below hd4)
  have B10 := Fact.mk (B8.out.trans (hd4.mono B8.out.size))
  clear hc4 hd4 R4 HB4 HX4 A8 O8 U8 T8 B8
  go_wp2_with fail
  refine (ran_any 11 (by decide) (by decide) 1 [10, 14, 15, 16] [[0, 0, 0], [1, 0, 0], [1, 1, 0], [0, 0, 0]] _ _ W10 A10.out T10.out [0, 0, 0, 1] eg5 (by decide)).mono ?_
  rintro e W11 ⟨v5, rfl, hr5, hb5⟩
  have hx5 := (Below.refl W11.heap.size W11).alloc (Nat.le_refl _) (Obj.cells #[.int .i64 0, .int .i64 0, .int .i64 0, .int .i64 1] 2)
  have R5 := Fact.mk (hr5.below hx5)
  have HB5 := Fact.mk hb5
  have HX5 := Fact.mk hx5
  clear hr5 hb5 hx5
  go_wp2_with fail
  refine (same64_any _ _ _ [0, 0, 0, 1] [0, 0, 0, 1] R5.out (rd_new oneI64 1 oneI64_len W11 [0, 0, 0, 1] 2 (by decide))).mono ?_
  rintro e W12 ⟨rfl, hc5⟩
  rw [ed5]
  have hd5 : Below W10.heap.size W10 W12 := (HB5.out.trans (HX5.out.mono HB5.out.size)).trans (hc5.mono (by have := HB5.out.size; have := HX5.out.size; omega))
  have A12 := Fact.mk (A10.out.below hd5)
  have O12 := Fact.mk (O10.out.below hd5)
  have U12 := Fact.mk (U10.out.below hd5)
  have T12 := Fact.mk (T10.out.below hd5)
  have B12 := Fact.mk (B10.out.trans (hd5.mono B10.out.size))
  clear hc5 hd5 R5 HB5 HX5 A10 O10 U10 T10 B10
  go_wp2_with fail
  go_ret
  exact ⟨rfl, B12.out⟩
end Go.Proofs.Ytjanofopmmndoaa

