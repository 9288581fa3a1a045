/- Contract of the runner's counter. -/
import Derived.Test.YtiogpainajokkaaRunABM
import Derived.StillTailTactics
namespace Go.Proofs.Ytiogpainajokkaa
open Go.RowKit
def stepC (cv n : Int) : Int := min (max (cv + n) (-2147483648)) 2147483647
theorem step_close {w : World} {B : Nat} {b : GBlock} {n : Int} (V : Int) (hV : V = stepC b.cv n) (hB : w.heap[B]? = some (.cells #[.int .u8 b.kind, .bool b.w0, .bool b.w1, .bool b.ran, .bool b.going, .int .i64 b.frm, .int .i64 b.et, .int .i64 b.cv, .bool b.q, .bool b.p] 67 (0, 0))) :
    Ending.returned (.tuple #[]) = .returned (.tuple #[]) ∧ w.grownBy ((w.setCell ⟨B, 7, none⟩ (.int .i64 V)).drew) (some B) ∧ ((w.setCell ⟨B, 7, none⟩ (.int .i64 V)).drew).heap[B]? = some (.cells #[.int .u8 b.kind, .bool b.w0, .bool b.w1, .bool b.ran, .bool b.going, .int .i64 b.frm, .int .i64 b.et, .int .i64 (stepC b.cv n), .bool b.q, .bool b.p] 67 (0, 0)) := by
  rw [← hV]
  exact ⟨rfl, grown_trans (grown_set w B 7 _) (grown_drew _ _), set10_7 hB⟩
/-- The closure that counts: it holds the block's pointer in a variable at V. -/
theorem step_any (w : World) (V B : Nat) (b : GBlock) (n : Int) (hV : w.heap[V]? = some (.cells #[.pointer (some ⟨B, 0, none⟩)] 235 (0, 0))) (hB : w.heap[B]? = some (.cells #[.int .u8 b.kind, .bool b.w0, .bool b.w1, .bool b.ran, .bool b.going, .int .i64 b.frm, .int .i64 b.et, .int .i64 b.cv, .bool b.q, .bool b.p] 67 (0, 0)))
    (h1 : -2147483648 ≤ b.cv) (h2 : b.cv ≤ 2147483647) (h3 : -1 ≤ n) (h4 : n ≤ 1) :
    Calls Try.prog 166 #[.int .i64 n, .pointer (some ⟨V, 0, none⟩)] w fun e w' => e = .returned (.tuple #[]) ∧ w.grownBy w' (some B) ∧ w'.heap[B]? = some (.cells #[.int .u8 b.kind, .bool b.w0, .bool b.w1, .bool b.ran, .bool b.going, .int .i64 b.frm, .int .i64 b.et, .int .i64 (stepC b.cv n), .bool b.q, .bool b.p] 67 (0, 0)) := by
  have c0 : w.cell? ⟨V, 0, none⟩ = some (.pointer (some ⟨B, 0, none⟩)) := cell_of_row w V 0 _ _ _ hV
  obtain ⟨d0, d1, d2, d3, d4, d5, d6, d7, d8, d9, g0, g1, g2, g3, g4, g5, g6, g7, g8, g9⟩ := row10 hB
  have HB := Fact.mk hB
  clear hB hV
  go_enter Try.func166, Try.ntmps166
  go_wp2
  go_region
  all_goals go_wp2
  all_goals go_end0
  all_goals exact step_close _ (by unfold stepC; omega) HB.out
def upC (b : GBlock) (rise : Bool) : Bool := rise && !decide (b.kind = 5)
def downC (b : GBlock) (rise : Bool) (ins : List Int) : Bool := if b.kind = 6 then onB ins 1 && !b.w1 else rise && decide (b.kind = 5)
def zeroC (b : GBlock) (ins : List Int) : Bool := if b.kind = 6 then onB ins 2 else decide (b.kind = 4) && onB ins 1
def loadC (b : GBlock) (ins : List Int) : Bool := if b.kind = 6 then onB ins 3 else decide (b.kind = 5) && onB ins 1
def cntC (cv pv : Int) (zero load up down : Bool) : Int := if zero = true then 0 else if load = true then pv else if (up && !down) = true then stepC cv 1 else if (down && !up) = true then stepC cv (-1) else cv
def qC (k cv pv : Int) (q : Bool) : Bool := if k = 4 then decide (pv ≤ cv) else if k = 5 then decide (cv ≤ 0) else if k = 6 then decide (pv ≤ cv) else q
def counterB (b : GBlock) (rise : Bool) (ins : List Int) (pv : Int) : GBlock :=
  { b with w1 := if b.kind = 6 then onB ins 1 else b.w1, cv := cntC b.cv pv (zeroC b ins) (loadC b ins) (upC b rise) (downC b rise ins),
           q := qC b.kind (cntC b.cv pv (zeroC b ins) (loadC b ins) (upC b rise) (downC b rise ins)) pv b.q,
           p := if b.kind = 6 then decide (cntC b.cv pv (zeroC b ins) (loadC b ins) (upC b rise) (downC b rise ins) ≤ 0) else b.p }
theorem RunSt.below {w w' : World} {R B : Nat} {ins : List Int} {now : Int} {rise fall : Bool} {b : GBlock} (h : RunSt w R B ins now rise fall b) (hb : Below w.heap.size w w') : RunSt w' R B ins now rise fall b := by
  obtain ⟨⟨vs, h1, h2, h3⟩, h4, h5⟩ := h
  refine ⟨⟨vs, h1.below hb, h2, ?_⟩, ?_, h5⟩
  · rw [hb.block R (Array.getElem?_eq_some_iff.1 h3).1]; exact h3
  · rw [hb.block B (Array.getElem?_eq_some_iff.1 h4).1]; exact h4
theorem RunSt.drewN {w : World} {R B : Nat} {ins : List Int} {now : Int} {rise fall : Bool} {b : GBlock} (h : RunSt w R B ins now rise fall b) (n : Nat) : RunSt (w.drewN n) R B ins now rise fall b := h.below ⟨rfl, rfl, rfl, Nat.le_refl _, fun _ _ => rfl⟩
theorem RunSt.alloc {w : World} {R B : Nat} {ins : List Int} {now : Int} {rise fall : Bool} {b : GBlock} (h : RunSt w R B ins now rise fall b) (o : Obj) : RunSt (w.alloc o) R B ins now rise fall b := h.below ((Below.refl _ _).alloc (Nat.le_refl _) o)
theorem quiet_at {P : Program} {f : FuncId} {args : Array Value} {w : World} {n a : Nat} {v : Value} (h : Calls P f args (w.drewN (n + a)) fun e w' => e = .returned v ∧ w' = w.drewN (n + a)) : Calls P f args (w.drewN (n + a)) fun e w'' => e = .returned v ∧ ∃ m, w'' = w.drewN (n + m) :=
  h.mono fun _ _ ⟨he, hm⟩ => ⟨he, a, hm⟩
theorem on_lit {R B : Nat} {ins : List Int} {now : Int} {rise fall : Bool} {b : GBlock} (i : Nat) (hi : i < ins.length) (y : Bool) (hy : onB ins i = y) : ∀ w, RunSt w R B ins now rise fall b → Calls Try.prog 159 #[.pointer (some ⟨R, 0, none⟩), .int .i64 i] w fun e w' => e = .returned (.bool y) ∧ w' = w := fun w h => by
  have := on_any w R B ins now rise fall b h i hi
  rw [hy] at this
  exact this.mono fun _ _ h => ⟨h.1, h.2.symm⟩
/-- What the counter makes: the block, and a variable of its own. -/
def CntPost (w : World) (R B : Nat) (ins : List Int) (now : Int) (rise fall : Bool) (b' : GBlock) (e : Ending) (w' : World) : Prop := e = .returned (.tuple #[]) ∧ RunSt w' R B ins now rise fall b' ∧ w.grownBy w' (some B)
theorem var_at (w : World) (B : Nat) (T : TypeId) (m : Nat) : ((w.alloc (.cells #[.pointer (some ⟨B, 0, none⟩)] T)).drewN m).heap[w.heap.size]? = some (.cells #[.pointer (some ⟨B, 0, none⟩)] T (0, 0)) := heap_alloc_new w _
theorem var_kept {w w2 : World} {B T m : Nat} (hne : w.heap.size ≠ B) (gr : ((w.alloc (.cells #[.pointer (some ⟨B, 0, none⟩)] T)).drewN m).grownBy w2 (some B)) : w2.cell? ⟨w.heap.size, 0, none⟩ = some (.pointer (some ⟨B, 0, none⟩)) :=
  cell_of_row w2 w.heap.size 0 _ T _ (grown_other gr (var_at w B T m) hne)
theorem cnt_end {w W2 w' : World} {R B : Nat} {ins : List Int} {now : Int} {rise fall : Bool} {b b' bb : GBlock} (H : RunSt W2 R B ins now rise fall b) (hg : w.grownBy W2 (some B)) (hg2 : W2.grownBy w' (some B))
    (hb : w'.heap[B]? = some (.cells #[.int .u8 b'.kind, .bool b'.w0, .bool b'.w1, .bool b'.ran, .bool b'.going, .int .i64 b'.frm, .int .i64 b'.et, .int .i64 b'.cv, .bool b'.q, .bool b'.p] 67 (0, 0))) (he : bb = b') : CntPost w R B ins now rise fall bb (.returned (.tuple #[])) w' := by
  subst he
  exact ⟨rfl, H.next hg2 hb, grown_trans hg hg2⟩
theorem RunSt.drew {w : World} {R B : Nat} {ins : List Int} {now : Int} {rise fall : Bool} {b : GBlock} (h : RunSt w R B ins now rise fall b) : RunSt w.drew R B ins now rise fall b := h.below ⟨rfl, rfl, rfl, Nat.le_refl _, fun _ _ => rfl⟩
theorem still_tail {P : Program} {id : Nat} {Q : Exit → Act → World → Prop} {a : Act} {w : World} {l : List Oper} (n : Nat) (hm : P.follows .mixedOrders = true) (hB : Region.lexTailB .any l.toArray n = true) (C : World → Prop) (hC : C w.drew)
    (h : ∀ W, C W → wpStill P l.toArray W (fun a' => wpList P l.toArray Q (l.drop n) a' W) (l.take n) a) : (Code.region id l.toArray true).wp P Q a w := wp_region_still_tail n hm hB (h _ hC)
end Go.Proofs.Ytiogpainajokkaa

namespace Go.Proofs.Ytiogpainajokkaa
open Go.RowKit
set_option maxRecDepth 100000 in
set_option maxHeartbeats 8000000 in
theorem counter_4 (w : World) (R B : Nat) (ins : List Int) (now : Int) (rise fall : Bool) (b : GBlock) (pv : Int) (h : RunSt w R B ins now rise fall b) (hk : b.kind = 4) (hi : ins.length = 3) (hp : ins.getD 2 0 = pv) (v1 : -2147483648 ≤ b.cv) (v2 : b.cv ≤ 2147483647) :
    Calls Try.prog 158 #[.pointer (some ⟨R, 0, none⟩)] w (CntPost w R B ins now rise fall (counterB b rise ins pv)) := by
  have hmf : ∀ (fn : Fn) (first cap : Array Value) (w : World), (Instr.makeFunc fn first cap).run Try.prog w = .ok (.func fn first cap) w := fun _ _ _ _ => rfl
  have H := Fact.mk h
  obtain ⟨⟨vs, h1, h2, h3⟩, h4, h5⟩ := h
  obtain ⟨k, off, c, rfl, hc⟩ := h1.at64 2 (by omega)
  rw [hp] at hc
  have lt1 : k < w.heap.size := World.block_lt_of_cell? w _ hc
  have lt2 : R < w.heap.size := (Array.getElem?_eq_some_iff.1 h3).1
  have lt3 : B < w.heap.size := (Array.getElem?_eq_some_iff.1 h4).1
  obtain ⟨c0, c1, c2, c3, c4, -, -, -, -, -⟩ := row5 h3
  obtain ⟨d0, d1, d2, d3, d4, d5, d6, d7, d8, d9, g0, g1, g2, g3, g4, g5, g6, g7, g8, g9⟩ := row10 h4
  rw [hk] at d0
  rw [hi] at c1
  have HK := Fact.mk hk
  clear h1 h2 h3 h4 hp hk
  cases hon1 : onB ins 1 with
  | true =>
    have ON1 := on_lit (R := R) (B := B) (now := now) (rise := rise) (fall := fall) (b := b) 1 (by omega) true hon1
    have HON1 := Fact.mk hon1
    clear hon1
    cases rise with
    | true =>
      go_enter Try.func158, Try.ntmps158
      go_wp2_with fail
      go_quiet (fail)
      go_wp2_with fail
      go_quiet ((go_at_call 159; first | exact quiet_at (ON1 _ ((H.out.alloc _).drewN _))))
      go_wp2_with fail
      go_quiet (fail)
      go_wp2_with fail
      go_end0
      exact cnt_end ((H.out.alloc _).drewN _) (grown_trans (World.grownBy_alloc _ _ _) (grown_drewN _ _ _)) (grown_trans (grown_set _ B 7 _) (grown_trans (grown_drewN _ _ _) (grown_set _ B 8 _))) (b' := { b with cv := 0, q := decide (pv ≤ 0) }) (set10_8 (set10_7 ((H.out.alloc _).drewN _).blk)) (by unfold counterB zeroC loadC upC downC cntC qC; simp [HK.out, HON1.out])
    | false =>
      go_enter Try.func158, Try.ntmps158
      go_wp2_with fail
      go_quiet (fail)
      go_wp2_with fail
      go_quiet ((go_at_call 159; first | exact quiet_at (ON1 _ ((H.out.alloc _).drewN _))))
      go_wp2_with fail
      go_quiet (fail)
      go_wp2_with fail
      go_end0
      exact cnt_end ((H.out.alloc _).drewN _) (grown_trans (World.grownBy_alloc _ _ _) (grown_drewN _ _ _)) (grown_trans (grown_set _ B 7 _) (grown_trans (grown_drewN _ _ _) (grown_set _ B 8 _))) (b' := { b with cv := 0, q := decide (pv ≤ 0) }) (set10_8 (set10_7 ((H.out.alloc _).drewN _).blk)) (by unfold counterB zeroC loadC upC downC cntC qC; simp [HK.out, HON1.out])
  | false =>
    have ON1 := on_lit (R := R) (B := B) (now := now) (rise := rise) (fall := fall) (b := b) 1 (by omega) false hon1
    have HON1 := Fact.mk hon1
    clear hon1
    cases rise with
    | true =>
      go_enter Try.func158, Try.ntmps158
      go_wp2_with fail
      go_quiet (fail)
      go_wp2_with fail
      go_quiet ((go_at_call 159; first | exact quiet_at (ON1 _ ((H.out.alloc _).drewN _))))
      go_wp2_with fail
      refine (step_any _ w.heap.size B b 1 (var_at _ _ _ _) (((H.out.alloc _).drewN _).blk) v1 v2 (by omega) (by omega)).mono ?_
      rintro e w2 ⟨rfl, gr, hb2⟩
      obtain ⟨d0, d1, d2, d3, d4, d5, d6, d7, d8, d9, g0, g1, g2, g3, g4, g5, g6, g7, g8, g9⟩ := row10 hb2
      have x2 := var_kept (Nat.ne_of_gt lt3) gr
      have GR := Fact.mk gr
      have HB2 := Fact.mk hb2
      clear gr hb2
      rw [HK.out] at d0
      clear hmf
      go_wp2_with fail
      go_quiet (fail)
      go_wp2_with fail
      go_end0
      exact cnt_end ((H.out.alloc _).drewN _) (grown_trans (World.grownBy_alloc _ _ _) (grown_drewN _ _ _)) (grown_trans GR.out (grown_trans (grown_drewN _ _ _) (grown_set _ B 8 _))) (b' := { b with cv := stepC b.cv 1, q := decide (pv ≤ stepC b.cv 1) }) (set10_8 HB2.out) (by unfold counterB zeroC loadC upC downC cntC qC; simp [HK.out, HON1.out])
    | false =>
      go_enter Try.func158, Try.ntmps158
      go_wp2_with fail
      go_quiet (fail)
      go_wp2_with fail
      go_quiet ((go_at_call 159; first | exact quiet_at (ON1 _ ((H.out.alloc _).drewN _))))
      go_wp2_with fail
      go_quiet (fail)
      go_wp2_with fail
      go_end0
      exact cnt_end ((H.out.alloc _).drewN _) (grown_trans (World.grownBy_alloc _ _ _) (grown_drewN _ _ _)) (grown_set _ B 8 _) (b' := { b with q := decide (pv ≤ b.cv) }) (set10_8 ((H.out.alloc _).drewN _).blk) (by unfold counterB zeroC loadC upC downC cntC qC; simp [HK.out, HON1.out])
end Go.Proofs.Ytiogpainajokkaa

namespace Go.Proofs.Ytiogpainajokkaa
open Go.RowKit
set_option maxRecDepth 100000 in
set_option maxHeartbeats 8000000 in
theorem counter_5 (w : World) (R B : Nat) (ins : List Int) (now : Int) (rise fall : Bool) (b : GBlock) (pv : Int) (h : RunSt w R B ins now rise fall b) (hk : b.kind = 5) (hi : ins.length = 3) (hp : ins.getD 2 0 = pv) (v1 : -2147483648 ≤ b.cv) (v2 : b.cv ≤ 2147483647) :
    Calls Try.prog 158 #[.pointer (some ⟨R, 0, none⟩)] w (CntPost w R B ins now rise fall (counterB b rise ins pv)) := by
  have hmf : ∀ (fn : Fn) (first cap : Array Value) (w : World), (Instr.makeFunc fn first cap).run Try.prog w = .ok (.func fn first cap) w := fun _ _ _ _ => rfl
  have H := Fact.mk h
  obtain ⟨⟨vs, h1, h2, h3⟩, h4, h5⟩ := h
  obtain ⟨k, off, c, rfl, hc⟩ := h1.at64 2 (by omega)
  rw [hp] at hc
  have lt1 : k < w.heap.size := World.block_lt_of_cell? w _ hc
  have lt2 : R < w.heap.size := (Array.getElem?_eq_some_iff.1 h3).1
  have lt3 : B < w.heap.size := (Array.getElem?_eq_some_iff.1 h4).1
  obtain ⟨c0, c1, c2, c3, c4, -, -, -, -, -⟩ := row5 h3
  obtain ⟨d0, d1, d2, d3, d4, d5, d6, d7, d8, d9, g0, g1, g2, g3, g4, g5, g6, g7, g8, g9⟩ := row10 h4
  rw [hk] at d0
  rw [hi] at c1
  have HK := Fact.mk hk
  clear h1 h2 h3 h4 hp hk
  cases hon1 : onB ins 1 with
  | true =>
    have ON1 := on_lit (R := R) (B := B) (now := now) (rise := rise) (fall := fall) (b := b) 1 (by omega) true hon1
    have HON1 := Fact.mk hon1
    clear hon1
    cases rise with
    | true =>
      go_enter Try.func158, Try.ntmps158
      go_wp2_with fail
      go_quiet (fail)
      go_wp2_with fail
      go_quiet ((go_at_call 159; first | exact quiet_at (ON1 _ ((H.out.alloc _).drewN _))))
      go_wp2_with fail
      go_quiet (fail)
      go_wp2_with fail
      go_end0
      exact cnt_end ((H.out.alloc _).drewN _) (grown_trans (World.grownBy_alloc _ _ _) (grown_drewN _ _ _)) (grown_trans (grown_set _ B 7 _) (grown_trans (grown_drewN _ _ _) (grown_set _ B 8 _))) (b' := { b with cv := pv, q := decide (pv ≤ 0) }) (set10_8 (set10_7 ((H.out.alloc _).drewN _).blk)) (by unfold counterB zeroC loadC upC downC cntC qC; simp [HK.out, HON1.out])
    | false =>
      go_enter Try.func158, Try.ntmps158
      go_wp2_with fail
      go_quiet (fail)
      go_wp2_with fail
      go_quiet ((go_at_call 159; first | exact quiet_at (ON1 _ ((H.out.alloc _).drewN _))))
      go_wp2_with fail
      go_quiet (fail)
      go_wp2_with fail
      go_end0
      exact cnt_end ((H.out.alloc _).drewN _) (grown_trans (World.grownBy_alloc _ _ _) (grown_drewN _ _ _)) (grown_trans (grown_set _ B 7 _) (grown_trans (grown_drewN _ _ _) (grown_set _ B 8 _))) (b' := { b with cv := pv, q := decide (pv ≤ 0) }) (set10_8 (set10_7 ((H.out.alloc _).drewN _).blk)) (by unfold counterB zeroC loadC upC downC cntC qC; simp [HK.out, HON1.out])
  | false =>
    have ON1 := on_lit (R := R) (B := B) (now := now) (rise := rise) (fall := fall) (b := b) 1 (by omega) false hon1
    have HON1 := Fact.mk hon1
    clear hon1
    cases rise with
    | true =>
      go_enter Try.func158, Try.ntmps158
      go_wp2_with fail
      go_quiet (fail)
      go_wp2_with fail
      go_quiet ((go_at_call 159; first | exact quiet_at (ON1 _ ((H.out.alloc _).drewN _))))
      go_wp2_with fail
      refine (step_any _ w.heap.size B b (-1) (var_at _ _ _ _) (((H.out.alloc _).drewN _).blk) v1 v2 (by omega) (by omega)).mono ?_
      rintro e w2 ⟨rfl, gr, hb2⟩
      obtain ⟨d0, d1, d2, d3, d4, d5, d6, d7, d8, d9, g0, g1, g2, g3, g4, g5, g6, g7, g8, g9⟩ := row10 hb2
      have x2 := var_kept (Nat.ne_of_gt lt3) gr
      have GR := Fact.mk gr
      have HB2 := Fact.mk hb2
      clear gr hb2
      rw [HK.out] at d0
      clear hmf
      go_wp2_with fail
      go_quiet (fail)
      go_wp2_with fail
      go_end0
      exact cnt_end ((H.out.alloc _).drewN _) (grown_trans (World.grownBy_alloc _ _ _) (grown_drewN _ _ _)) (grown_trans GR.out (grown_trans (grown_drewN _ _ _) (grown_set _ B 8 _))) (b' := { b with cv := stepC b.cv (-1), q := decide (stepC b.cv (-1) ≤ 0) }) (set10_8 HB2.out) (by unfold counterB zeroC loadC upC downC cntC qC; simp [HK.out, HON1.out])
    | false =>
      go_enter Try.func158, Try.ntmps158
      go_wp2_with fail
      go_quiet (fail)
      go_wp2_with fail
      go_quiet ((go_at_call 159; first | exact quiet_at (ON1 _ ((H.out.alloc _).drewN _))))
      go_wp2_with fail
      go_quiet (fail)
      go_wp2_with fail
      go_end0
      exact cnt_end ((H.out.alloc _).drewN _) (grown_trans (World.grownBy_alloc _ _ _) (grown_drewN _ _ _)) (grown_set _ B 8 _) (b' := { b with q := decide (b.cv ≤ 0) }) (set10_8 ((H.out.alloc _).drewN _).blk) (by unfold counterB zeroC loadC upC downC cntC qC; simp [HK.out, HON1.out])
end Go.Proofs.Ytiogpainajokkaa

