/- What signs make of two values: contracts of scan.sign's methods, scan.truth, scan.not. -/
import Derived.Test.YtiogpainajokkaaMchM
import Derived.Deep.QuietTactic
import Derived.BigQuiet
import Derived.Laws.EntriesVeiled
namespace Go.Proofs.Ytiogpainajokkaa
open Go.RowKit
theorem sgn_val (o t x y : Int) (k : Nat) (h : o = 4 + k) (hk : k < 8) : signB o t x y = wrapOf t (if k = 0 then wrap64 (x + y) else if k = 1 then wrap64 (x - y) else if k = 2 then wrap64 (x * y) else if k = 3 then wrap64 (x.tdiv y) else if k = 4 then x.tmod y else if k = 5 then bits .and .i64 x y else if k = 6 then bits .or .i64 x y else bits .xor .i64 x y) := by
  subst h
  unfold signB
  rcases (by omega : k = 0 ∨ k = 1 ∨ k = 2 ∨ k = 3 ∨ k = 4 ∨ k = 5 ∨ k = 6 ∨ k = 7) with rfl | rfl | rfl | rfl | rfl | rfl | rfl | rfl
  all_goals rfl
theorem struth_any (b : Bool) (w : World) : Calls Try.prog 154 #[.bool b] w fun e w' => e = .returned (.int .i64 (if b = true then 1 else 0)) ∧ w = w' := by
  go_enter Try.func154, Try.ntmps154
  cases b
  all_goals
    go_wp2
    go_ret
    exact ⟨rfl, rfl⟩
theorem drewN_below {w w' : World} (h : Below w.heap.size w w') (n : Nat) : Below w.heap.size w (w'.drewN n) := by
  induction n with
  | zero => exact h
  | succ n ih => exact ih.drew
theorem wrap_quiet (t n : Int) (W : World) : ∀ q, Calls Try.prog 19 #[.int .u8 t, .int .i64 n] (W.drewN q) fun e w' => e = .returned (.int .i64 (wrapOf t n)) ∧ ∃ m, w' = (W.drewN q).drewN m :=
  fun _ => (wrap_any t n _).mono fun _ _ h => ⟨h.1, 0, h.2.symm⟩
set_option maxRecDepth 100000 in
theorem sg_add (t x y : Int) (w : World) : Calls Try.prog 124 #[.agg #[.int .u8 t], .int .i64 x, .int .i64 y] w fun e w' => e = .returned (.int .i64 (signB 4 t x y)) ∧ Below w.heap.size w w' := by
  have HS : Fact (signB 4 t x y = wrapOf t (wrap64 (x + y))) := ⟨sgn_val 4 t x y 0 rfl (by decide)⟩
  rw [HS.out]
  go_enter Try.func124, Try.ntmps124
  go_wp2_with fail
  refine (wrap_any _ _ _).mono ?_
  rintro e W ⟨rfl, rfl⟩
  go_wp2
  go_ret
  exact ⟨rfl, by first | exact Below.refl _ _ | exact (one_block w _).1⟩
set_option maxRecDepth 100000 in
theorem sg_sub (t x y : Int) (w : World) : Calls Try.prog 125 #[.agg #[.int .u8 t], .int .i64 x, .int .i64 y] w fun e w' => e = .returned (.int .i64 (signB 5 t x y)) ∧ Below w.heap.size w w' := by
  have HS : Fact (signB 5 t x y = wrapOf t (wrap64 (x - y))) := ⟨sgn_val 5 t x y 1 rfl (by decide)⟩
  rw [HS.out]
  go_enter Try.func125, Try.ntmps125
  go_wp2_with fail
  refine (wrap_any _ _ _).mono ?_
  rintro e W ⟨rfl, rfl⟩
  go_wp2
  go_ret
  exact ⟨rfl, by first | exact Below.refl _ _ | exact (one_block w _).1⟩
set_option maxRecDepth 100000 in
theorem sg_mul (t x y : Int) (w : World) : Calls Try.prog 126 #[.agg #[.int .u8 t], .int .i64 x, .int .i64 y] w fun e w' => e = .returned (.int .i64 (signB 6 t x y)) ∧ Below w.heap.size w w' := by
  have HS : Fact (signB 6 t x y = wrapOf t (wrap64 (x * y))) := ⟨sgn_val 6 t x y 2 rfl (by decide)⟩
  rw [HS.out]
  go_enter Try.func126, Try.ntmps126
  go_wp2_with fail
  refine (wrap_any _ _ _).mono ?_
  rintro e W ⟨rfl, rfl⟩
  go_wp2
  go_ret
  exact ⟨rfl, by first | exact Below.refl _ _ | exact (one_block w _).1⟩
set_option maxRecDepth 100000 in
theorem sg_div (t x y : Int) (hy : y ≠ 0) (w : World) : Calls Try.prog 127 #[.agg #[.int .u8 t], .int .i64 x, .int .i64 y] w fun e w' => e = .returned (.int .i64 (signB 7 t x y)) ∧ Below w.heap.size w w' := by
  have HS : Fact (signB 7 t x y = wrapOf t (wrap64 (x.tdiv y))) := ⟨sgn_val 7 t x y 3 rfl (by decide)⟩
  have WQ := Fact.mk (wrap_quiet t (wrap64 (x.tdiv y)))
  have h0 : (y == 0) = false := beq_eq_false_iff_ne.2 hy
  rw [HS.out]
  go_enter Try.func127, Try.ntmps127
  go_wp2_with fail
  go_quiet ((go_at_call 19; exact Calls.quiet_of (WQ.out _ _)))
  go_wp2
  go_ret
  exact ⟨rfl, by first | exact drewN_below (Below.refl _ _) _ | exact drewN_below (one_block w _).1 _⟩
set_option maxRecDepth 100000 in
theorem sg_mod (t x y : Int) (hy : y ≠ 0) (w : World) : Calls Try.prog 128 #[.agg #[.int .u8 t], .int .i64 x, .int .i64 y] w fun e w' => e = .returned (.int .i64 (signB 8 t x y)) ∧ Below w.heap.size w w' := by
  have HS : Fact (signB 8 t x y = wrapOf t (x.tmod y)) := ⟨sgn_val 8 t x y 4 rfl (by decide)⟩
  have WQ := Fact.mk (wrap_quiet t (x.tmod y))
  have h0 : (y == 0) = false := beq_eq_false_iff_ne.2 hy
  rw [HS.out]
  go_enter Try.func128, Try.ntmps128
  go_wp2_with fail
  go_quiet ((go_at_call 19; exact Calls.quiet_of (WQ.out _ _)))
  go_wp2
  go_ret
  exact ⟨rfl, by first | exact drewN_below (Below.refl _ _) _ | exact drewN_below (one_block w _).1 _⟩
set_option maxRecDepth 100000 in
theorem sg_and (t x y : Int) (w : World) : Calls Try.prog 129 #[.agg #[.int .u8 t], .int .i64 x, .int .i64 y] w fun e w' => e = .returned (.int .i64 (signB 9 t x y)) ∧ Below w.heap.size w w' := by
  have HS : Fact (signB 9 t x y = wrapOf t (bits .and .i64 x y)) := ⟨sgn_val 9 t x y 5 rfl (by decide)⟩
  rw [HS.out]
  go_enter Try.func129, Try.ntmps129
  go_wp2_with fail
  refine (wrap_any _ _ _).mono ?_
  rintro e W ⟨rfl, rfl⟩
  go_wp2
  go_ret
  exact ⟨rfl, by first | exact Below.refl _ _ | exact (one_block w _).1⟩
set_option maxRecDepth 100000 in
theorem sg_or (t x y : Int) (w : World) : Calls Try.prog 130 #[.agg #[.int .u8 t], .int .i64 x, .int .i64 y] w fun e w' => e = .returned (.int .i64 (signB 10 t x y)) ∧ Below w.heap.size w w' := by
  have HS : Fact (signB 10 t x y = wrapOf t (bits .or .i64 x y)) := ⟨sgn_val 10 t x y 6 rfl (by decide)⟩
  rw [HS.out]
  go_enter Try.func130, Try.ntmps130
  go_wp2_with fail
  refine (wrap_any _ _ _).mono ?_
  rintro e W ⟨rfl, rfl⟩
  go_wp2
  go_ret
  exact ⟨rfl, by first | exact Below.refl _ _ | exact (one_block w _).1⟩
set_option maxRecDepth 100000 in
theorem sg_xor (t x y : Int) (w : World) : Calls Try.prog 131 #[.agg #[.int .u8 t], .int .i64 x, .int .i64 y] w fun e w' => e = .returned (.int .i64 (signB 11 t x y)) ∧ Below w.heap.size w w' := by
  have HS : Fact (signB 11 t x y = wrapOf t (bits .xor .i64 x y)) := ⟨sgn_val 11 t x y 7 rfl (by decide)⟩
  rw [HS.out]
  go_enter Try.func131, Try.ntmps131
  go_wp2_with fail
  refine (wrap_any _ _ _).mono ?_
  rintro e W ⟨rfl, rfl⟩
  go_wp2
  go_ret
  exact ⟨rfl, by first | exact Below.refl _ _ | exact (one_block w _).1⟩
set_option maxRecDepth 100000 in
theorem sg_eq (t x y : Int) (w : World) : Calls Try.prog 132 #[.agg #[.int .u8 t], .int .i64 x, .int .i64 y] w fun e w' => e = .returned (.int .i64 (signB 13 t x y)) ∧ Below w.heap.size w w' := by
  obtain ⟨r, hr⟩ : ∃ r, signB 13 t x y = r := ⟨_, rfl⟩
  have HS : Fact ((if (decide (x = y)) = true then 1 else 0) = r) := ⟨by rw [← hr]; unfold signB; simp⟩
  rw [hr]
  clear hr
  go_enter Try.func132, Try.ntmps132
  by_cases h : x = y
  · obtain rfl : 1 = r := by rw [← HS.out, decide_eq_true h]; rfl
    have hb : (x == y) = true := beq_iff_eq.2 h
    clear h
    go_wp2_with fail
    refine (struth_any _ _).mono ?_
    rintro e W ⟨rfl, rfl⟩
    go_wp2
    go_ret
    exact ⟨rfl, by first | exact Below.refl _ _ | exact (one_block w _).1⟩
  · obtain rfl : 0 = r := by rw [← HS.out, decide_eq_false h]; rfl
    have hb : (x == y) = false := beq_eq_false_iff_ne.2 h
    clear h
    go_wp2_with fail
    refine (struth_any _ _).mono ?_
    rintro e W ⟨rfl, rfl⟩
    go_wp2
    go_ret
    exact ⟨rfl, by first | exact Below.refl _ _ | exact (one_block w _).1⟩
set_option maxRecDepth 100000 in
theorem sg_lt (t x y : Int) (w : World) : Calls Try.prog 133 #[.agg #[.int .u8 t], .int .i64 x, .int .i64 y] w fun e w' => e = .returned (.int .i64 (signB 14 t x y)) ∧ Below w.heap.size w w' := by
  obtain ⟨r, hr⟩ : ∃ r, signB 14 t x y = r := ⟨_, rfl⟩
  have HS : Fact ((if (decide (x < y)) = true then 1 else 0) = r) := ⟨by rw [← hr]; unfold signB; simp⟩
  rw [hr]
  clear hr
  go_enter Try.func133, Try.ntmps133
  by_cases h : x < y
  · obtain rfl : 1 = r := by rw [← HS.out, decide_eq_true h]; rfl
    have hb : decide (x < y) = true := decide_eq_true h
    clear h
    go_wp2_with fail
    refine (struth_any _ _).mono ?_
    rintro e W ⟨rfl, rfl⟩
    go_wp2
    go_ret
    exact ⟨rfl, by first | exact Below.refl _ _ | exact (one_block w _).1⟩
  · obtain rfl : 0 = r := by rw [← HS.out, decide_eq_false h]; rfl
    have hb : decide (x < y) = false := decide_eq_false h
    clear h
    go_wp2_with fail
    refine (struth_any _ _).mono ?_
    rintro e W ⟨rfl, rfl⟩
    go_wp2
    go_ret
    exact ⟨rfl, by first | exact Below.refl _ _ | exact (one_block w _).1⟩
theorem bits_not (n : Int) : bits .xor .i64 (-1) n = wrap64 (-1 - n) := by
  show IntKind.i64.wrap ((BitVec.ofInt 64 (-1) ^^^ BitVec.ofInt 64 n).toNat : Int) = _
  rw [show BitVec.ofInt 64 (-1) = BitVec.allOnes 64 from by decide, BitVec.allOnes_xor, BitVec.toNat_not, BitVec.toNat_ofInt, IntKind.wrap_i64]
  unfold wrap64
  omega
set_option maxRecDepth 100000 in
theorem not_any (t n : Int) (hn : 0 ≤ n ∧ n ≤ 1 ∨ t ≠ 1) (h1 : -9223372036854775808 ≤ n) (h2 : n ≤ 9223372036854775807) (w : World) : Calls Try.prog 81 #[.int .u8 t, .int .i64 n] w fun e w' => e = .returned (.int .i64 (notI t n)) ∧ w = w' := by
  by_cases h : t = 1
  · subst h
    have hb : 0 ≤ n ∧ n ≤ 1 := hn.resolve_right (fun h => h rfl)
    obtain ⟨b0, b1⟩ := hb
    clear hn
    go_enter Try.func81, Try.ntmps81
    go_wp2
    go_ret
    exact ⟨rfl, rfl⟩
  · have HN : Fact (notI t n = wrapOf t (-1 - n)) := ⟨by unfold notI; rw [if_neg h]⟩
    have e1 : (t == 1) = false := beq_eq_false_iff_ne.2 h
    clear hn h
    go_enter Try.func81, Try.ntmps81
    go_wp2_with fail
    refine (wrap_any _ _ _).mono ?_
    rintro e W ⟨rfl, rfl⟩
    go_wp2
    go_ret
    refine ⟨?_, rfl⟩
    rw [HN.out, show -1 - n = bits .xor .i64 (-1) n from by rw [bits_not]; unfold wrap64; omega]
    rfl
end Go.Proofs.Ytiogpainajokkaa

namespace Go.Proofs.Ytiogpainajokkaa
open Go.RowKit Go.MapKept
theorem MapFn.run_hit2 {κ : Type} [DecidableEq κ] {P : Program} {K : TypeId} {d : TypeDesc} {mk : κ → Value} (L : KeyLaw P K d mk) {T E : TypeId} (hT : P.underlying T = some (.map K E)) {w : World} {B : Nat} {m : κ → Option Value} (h : MapFn mk w B m) {a : κ} {v : Value} (hv : m a = some v) :
    (Instr.lookup T (.map (some B)) (mk a) true).run P w = .ok (.tuple #[v, .bool true]) w := by
  obtain ⟨l, ⟨es, c, h1, h2⟩, h3⟩ := h
  obtain ⟨j, hf, _⟩ := (findNow_look L a es.toList l h2).2 v ((h3 a).trans hv) 0
  simp [Instr.lookup, Sem.run_bind, run_underlying hT, Result.andThen, MapKept.run_getObj_map h1, run_checkKey L.und (L.isKey a), run_findKey L.und hf]
theorem MapFn.run_miss2 {κ : Type} [DecidableEq κ] {P : Program} {K : TypeId} {d : TypeDesc} {mk : κ → Value} (L : KeyLaw P K d mk) {T E : TypeId} (hT : P.underlying T = some (.map K E)) {z : Value} (hz : ∀ w, (zeroValue E).run P w = .ok z w) {w : World} {B : Nat} {m : κ → Option Value} (h : MapFn mk w B m) {a : κ} (hv : m a = none) :
    (Instr.lookup T (.map (some B)) (mk a) true).run P w = .ok (.tuple #[z, .bool false]) w := by
  obtain ⟨l, ⟨es, c, h1, h2⟩, h3⟩ := h
  have hf := (findNow_look L a es.toList l h2).1 ((h3 a).trans hv) 0
  simp [Instr.lookup, Sem.run_bind, run_underlying hT, Result.andThen, MapKept.run_getObj_map h1, run_checkKey L.und (L.isKey a), run_findKey L.und hf, hz]
def jv (t : Int) (g : FuncId) : Value := .func (.func g) #[.agg #[.int .u8 t]] #[]
def jfn (t b : Int) : Option Value := if b = 14 then some (jv t 133) else (if b = 13 then some (jv t 132) else (if b = 11 then some (jv t 131) else (if b = 10 then some (jv t 130) else (if b = 9 then some (jv t 129) else (if b = 8 then some (jv t 128) else (if b = 7 then some (jv t 127) else (if b = 6 then some (jv t 126) else (if b = 5 then some (jv t 125) else (if b = 4 then some (jv t 124) else none)))))))))
theorem joins_cases {op : Int} (h : joinsOp op = true) : op = 4 ∨ op = 5 ∨ op = 6 ∨ op = 7 ∨ op = 8 ∨ op = 9 ∨ op = 10 ∨ op = 11 ∨ op = 13 ∨ op = 14 := by
  unfold joinsOp at h
  simp only [Bool.or_eq_true, Bool.and_eq_true, decide_eq_true_eq] at h
  omega
theorem joins_fn {op : Int} (h : joinsOp op = true) (t x y : Int) (hy : op = 7 ∨ op = 8 → y ≠ 0) : ∃ g, jfn t op = some (jv t g) ∧ ∀ W, Calls Try.prog g #[.agg #[.int .u8 t], .int .i64 x, .int .i64 y] W fun e w' => e = .returned (.int .i64 (signB op t x y)) ∧ Below W.heap.size W w' := by
  rcases joins_cases h with rfl | rfl | rfl | rfl | rfl | rfl | rfl | rfl | rfl | rfl
  · exact ⟨124, rfl, fun W => sg_add t x y W⟩
  · exact ⟨125, rfl, fun W => sg_sub t x y W⟩
  · exact ⟨126, rfl, fun W => sg_mul t x y W⟩
  · exact ⟨127, rfl, fun W => sg_div t x y (hy (by omega)) W⟩
  · exact ⟨128, rfl, fun W => sg_mod t x y (hy (by omega)) W⟩
  · exact ⟨129, rfl, fun W => sg_and t x y W⟩
  · exact ⟨130, rfl, fun W => sg_or t x y W⟩
  · exact ⟨131, rfl, fun W => sg_xor t x y W⟩
  · exact ⟨132, rfl, fun W => sg_eq t x y W⟩
  · exact ⟨133, rfl, fun W => sg_lt t x y W⟩
set_option maxHeartbeats 4000000 in
set_option maxRecDepth 100000 in
theorem joins_any (w0 w : World) (X : Nat) (c : GCode) (vs bs is : Value) (now : Int) (m : GMach) (V B S : Value) (h : MSt w0 w X c vs bs is now m V B S) (hl : m.st.length ≤ 1000) (op t a n : Int) (hop : joinsOp op = true) (s : List Int) (x y : Int) (hs : m.st = s ++ [x, y]) (hy : op = 7 ∨ op = 8 → y ≠ 0) :
    Calls Try.prog 78 #[.pointer (some ⟨X, 0, none⟩), .agg #[.int .u8 op, .int .u8 t, .int .i64 a, .int .i64 n]] w (StPost1 w0 X c vs bs is now { m with st := s ++ [signB op t x y] } V B (.bool true)) := by
  have hmm := @run_makeMap Try.prog
  have hT : Try.prog.underlying 212 = some (.map 47 211) := Try.underlying212
  have L : KeyLaw Try.prog 47 (.int .u8) mkU8 := keyLaw_int Try.underlying47
  have H := Fact.mk h
  have HS := Fact.mk (And.intro hs hy)
  clear h hs hy
  go_enter Try.func78, Try.ntmps78
  go_upto_region 2 with (fail)
  have TB := two_blocks w (.cells #[.int .u8 op, .int .u8 t, .int .i64 a, .int .i64 n] 49) (.cells #[.int .u8 t] 210)
  have M2 := Fact.mk (H.out.below TB.1)
  have R2 := Fact.mk TB.2.1
  have c5 : ((w.alloc (.cells #[.int .u8 op, .int .u8 t, .int .i64 a, .int .i64 n] 49)).alloc (.cells #[.int .u8 t] 210)).cell? ⟨w.heap.size + 1, 0, none⟩ = some (.int .u8 t) := by rw [cell_of_row _ _ 0 _ _ _ TB.2.2.1]; rfl
  have C5 := Fact.mk c5
  have l5 : w.heap.size + 1 < ((w.alloc (.cells #[.int .u8 op, .int .u8 t, .int .i64 a, .int .i64 n] 49)).alloc (.cells #[.int .u8 t] 210)).heap.size := by rw [TB.2.2.2]; omega
  clear TB
  generalize (w.alloc (.cells #[.int .u8 op, .int .u8 t, .int .i64 a, .int .i64 n] 49)).alloc (.cells #[.int .u8 t] 210) = w2 at *
  go_upto_region 3 with (first | (refine wpList_putB L hT rfl _ _ _ (.inl rfl) rfl w2.heap.size _ _ rfl rfl (by first | exact MapFn.made _ _ | assumption) _ rfl w2.heap.size w2 (Nat.le_refl _) (by first | exact (Below.refl _ w2).alloc (Nat.le_refl _) _ | assumption) ?_; intro w' hm hb; have cz := cell_below hb _ _ C5.out))
  have HM := Fact.mk (show MapFn mkU8 w' w2.heap.size (jfn t) from hm)
  have HB := Fact.mk hb
  have k0 : w'.cell? ⟨w.heap.size, 0, none⟩ = some (.int .u8 op) := cell_below hb _ _ (by rw [cell_of_row _ _ 0 _ _ _ R2.out]; rfl)
  have M3 := Fact.mk (M2.out.below HB.out)
  have POP := fun W S' (hM : MSt w0 W X c vs bs is now m V B S') => pop_any w0 W X c vs bs is now m V B S' hM hl (s ++ [x]) y (by rw [HS.out.1]; simp)
  have POP2 := fun W S' (hM : MSt w0 W X c vs bs is now { m with st := s ++ [x] } V B S') => pop_any w0 W X c vs bs is now { m with st := s ++ [x] } V B S' hM (by have := HS.out.1; have := congrArg List.length this; simp at this ⊢; omega) s x rfl
  have PUSH := fun W S' v (hM : MSt w0 W X c vs bs is now { m with st := s } V B S') => push_any w0 W X c vs bs is now { m with st := s } V B S' hM (by have := HS.out.1; have := congrArg List.length this; simp at this ⊢; omega) v
  have P1 := Fact.mk POP
  have P2 := Fact.mk POP2
  have P3 := Fact.mk PUSH
  clear POP POP2 PUSH hm hb cz c5 hmm
  rcases joins_cases hop with rfl | rfl | rfl | rfl | rfl | rfl | rfl | rfl | rfl | rfl
  · have hl2 := HM.out.run_hit2 L hT (a := 4) (v := jv t 124) rfl
    have SG := Fact.mk (fun W => sg_add t x y W)
    unfold jv at hl2
    go_wp2_with fail
    refine (P1.out _ _ M3.out).mono ?_
    rintro e W4 ⟨rfl, S4, m4, -⟩
    have M4 := Fact.mk m4
    clear m4
    go_wp2_with fail
    refine (P2.out _ _ M4.out).mono ?_
    rintro e W5 ⟨rfl, S5, m5, -⟩
    have M5 := Fact.mk m5
    clear m5
    go_wp2_with fail
    refine (SG.out _).mono ?_
    rintro e W6 ⟨rfl, hb6⟩
    have M6 := Fact.mk (M5.out.below hb6)
    clear hb6
    go_wp2_with fail
    refine (P3.out _ _ _ M6.out).mono ?_
    rintro e W7 ⟨rfl, S7, m7, -⟩
    have M7 := Fact.mk m7
    clear m7
    go_wp2
    go_ret
    exact ⟨rfl, S7, M7.out⟩
  · have hl2 := HM.out.run_hit2 L hT (a := 5) (v := jv t 125) rfl
    have SG := Fact.mk (fun W => sg_sub t x y W)
    unfold jv at hl2
    go_wp2_with fail
    refine (P1.out _ _ M3.out).mono ?_
    rintro e W4 ⟨rfl, S4, m4, -⟩
    have M4 := Fact.mk m4
    clear m4
    go_wp2_with fail
    refine (P2.out _ _ M4.out).mono ?_
    rintro e W5 ⟨rfl, S5, m5, -⟩
    have M5 := Fact.mk m5
    clear m5
    go_wp2_with fail
    refine (SG.out _).mono ?_
    rintro e W6 ⟨rfl, hb6⟩
    have M6 := Fact.mk (M5.out.below hb6)
    clear hb6
    go_wp2_with fail
    refine (P3.out _ _ _ M6.out).mono ?_
    rintro e W7 ⟨rfl, S7, m7, -⟩
    have M7 := Fact.mk m7
    clear m7
    go_wp2
    go_ret
    exact ⟨rfl, S7, M7.out⟩
  · have hl2 := HM.out.run_hit2 L hT (a := 6) (v := jv t 126) rfl
    have SG := Fact.mk (fun W => sg_mul t x y W)
    unfold jv at hl2
    go_wp2_with fail
    refine (P1.out _ _ M3.out).mono ?_
    rintro e W4 ⟨rfl, S4, m4, -⟩
    have M4 := Fact.mk m4
    clear m4
    go_wp2_with fail
    refine (P2.out _ _ M4.out).mono ?_
    rintro e W5 ⟨rfl, S5, m5, -⟩
    have M5 := Fact.mk m5
    clear m5
    go_wp2_with fail
    refine (SG.out _).mono ?_
    rintro e W6 ⟨rfl, hb6⟩
    have M6 := Fact.mk (M5.out.below hb6)
    clear hb6
    go_wp2_with fail
    refine (P3.out _ _ _ M6.out).mono ?_
    rintro e W7 ⟨rfl, S7, m7, -⟩
    have M7 := Fact.mk m7
    clear m7
    go_wp2
    go_ret
    exact ⟨rfl, S7, M7.out⟩
  · have hl2 := HM.out.run_hit2 L hT (a := 7) (v := jv t 127) rfl
    have SG := Fact.mk (fun W => sg_div t x y (HS.out.2 (by omega)) W)
    unfold jv at hl2
    go_wp2_with fail
    refine (P1.out _ _ M3.out).mono ?_
    rintro e W4 ⟨rfl, S4, m4, -⟩
    have M4 := Fact.mk m4
    clear m4
    go_wp2_with fail
    refine (P2.out _ _ M4.out).mono ?_
    rintro e W5 ⟨rfl, S5, m5, -⟩
    have M5 := Fact.mk m5
    clear m5
    go_wp2_with fail
    refine (SG.out _).mono ?_
    rintro e W6 ⟨rfl, hb6⟩
    have M6 := Fact.mk (M5.out.below hb6)
    clear hb6
    go_wp2_with fail
    refine (P3.out _ _ _ M6.out).mono ?_
    rintro e W7 ⟨rfl, S7, m7, -⟩
    have M7 := Fact.mk m7
    clear m7
    go_wp2
    go_ret
    exact ⟨rfl, S7, M7.out⟩
  · have hl2 := HM.out.run_hit2 L hT (a := 8) (v := jv t 128) rfl
    have SG := Fact.mk (fun W => sg_mod t x y (HS.out.2 (by omega)) W)
    unfold jv at hl2
    go_wp2_with fail
    refine (P1.out _ _ M3.out).mono ?_
    rintro e W4 ⟨rfl, S4, m4, -⟩
    have M4 := Fact.mk m4
    clear m4
    go_wp2_with fail
    refine (P2.out _ _ M4.out).mono ?_
    rintro e W5 ⟨rfl, S5, m5, -⟩
    have M5 := Fact.mk m5
    clear m5
    go_wp2_with fail
    refine (SG.out _).mono ?_
    rintro e W6 ⟨rfl, hb6⟩
    have M6 := Fact.mk (M5.out.below hb6)
    clear hb6
    go_wp2_with fail
    refine (P3.out _ _ _ M6.out).mono ?_
    rintro e W7 ⟨rfl, S7, m7, -⟩
    have M7 := Fact.mk m7
    clear m7
    go_wp2
    go_ret
    exact ⟨rfl, S7, M7.out⟩
  · have hl2 := HM.out.run_hit2 L hT (a := 9) (v := jv t 129) rfl
    have SG := Fact.mk (fun W => sg_and t x y W)
    unfold jv at hl2
    go_wp2_with fail
    refine (P1.out _ _ M3.out).mono ?_
    rintro e W4 ⟨rfl, S4, m4, -⟩
    have M4 := Fact.mk m4
    clear m4
    go_wp2_with fail
    refine (P2.out _ _ M4.out).mono ?_
    rintro e W5 ⟨rfl, S5, m5, -⟩
    have M5 := Fact.mk m5
    clear m5
    go_wp2_with fail
    refine (SG.out _).mono ?_
    rintro e W6 ⟨rfl, hb6⟩
    have M6 := Fact.mk (M5.out.below hb6)
    clear hb6
    go_wp2_with fail
    refine (P3.out _ _ _ M6.out).mono ?_
    rintro e W7 ⟨rfl, S7, m7, -⟩
    have M7 := Fact.mk m7
    clear m7
    go_wp2
    go_ret
    exact ⟨rfl, S7, M7.out⟩
  · have hl2 := HM.out.run_hit2 L hT (a := 10) (v := jv t 130) rfl
    have SG := Fact.mk (fun W => sg_or t x y W)
    unfold jv at hl2
    go_wp2_with fail
    refine (P1.out _ _ M3.out).mono ?_
    rintro e W4 ⟨rfl, S4, m4, -⟩
    have M4 := Fact.mk m4
    clear m4
    go_wp2_with fail
    refine (P2.out _ _ M4.out).mono ?_
    rintro e W5 ⟨rfl, S5, m5, -⟩
    have M5 := Fact.mk m5
    clear m5
    go_wp2_with fail
    refine (SG.out _).mono ?_
    rintro e W6 ⟨rfl, hb6⟩
    have M6 := Fact.mk (M5.out.below hb6)
    clear hb6
    go_wp2_with fail
    refine (P3.out _ _ _ M6.out).mono ?_
    rintro e W7 ⟨rfl, S7, m7, -⟩
    have M7 := Fact.mk m7
    clear m7
    go_wp2
    go_ret
    exact ⟨rfl, S7, M7.out⟩
  · have hl2 := HM.out.run_hit2 L hT (a := 11) (v := jv t 131) rfl
    have SG := Fact.mk (fun W => sg_xor t x y W)
    unfold jv at hl2
    go_wp2_with fail
    refine (P1.out _ _ M3.out).mono ?_
    rintro e W4 ⟨rfl, S4, m4, -⟩
    have M4 := Fact.mk m4
    clear m4
    go_wp2_with fail
    refine (P2.out _ _ M4.out).mono ?_
    rintro e W5 ⟨rfl, S5, m5, -⟩
    have M5 := Fact.mk m5
    clear m5
    go_wp2_with fail
    refine (SG.out _).mono ?_
    rintro e W6 ⟨rfl, hb6⟩
    have M6 := Fact.mk (M5.out.below hb6)
    clear hb6
    go_wp2_with fail
    refine (P3.out _ _ _ M6.out).mono ?_
    rintro e W7 ⟨rfl, S7, m7, -⟩
    have M7 := Fact.mk m7
    clear m7
    go_wp2
    go_ret
    exact ⟨rfl, S7, M7.out⟩
  · have hl2 := HM.out.run_hit2 L hT (a := 13) (v := jv t 132) rfl
    have SG := Fact.mk (fun W => sg_eq t x y W)
    unfold jv at hl2
    go_wp2_with fail
    refine (P1.out _ _ M3.out).mono ?_
    rintro e W4 ⟨rfl, S4, m4, -⟩
    have M4 := Fact.mk m4
    clear m4
    go_wp2_with fail
    refine (P2.out _ _ M4.out).mono ?_
    rintro e W5 ⟨rfl, S5, m5, -⟩
    have M5 := Fact.mk m5
    clear m5
    go_wp2_with fail
    refine (SG.out _).mono ?_
    rintro e W6 ⟨rfl, hb6⟩
    have M6 := Fact.mk (M5.out.below hb6)
    clear hb6
    go_wp2_with fail
    refine (P3.out _ _ _ M6.out).mono ?_
    rintro e W7 ⟨rfl, S7, m7, -⟩
    have M7 := Fact.mk m7
    clear m7
    go_wp2
    go_ret
    exact ⟨rfl, S7, M7.out⟩
  · have hl2 := HM.out.run_hit2 L hT (a := 14) (v := jv t 133) rfl
    have SG := Fact.mk (fun W => sg_lt t x y W)
    unfold jv at hl2
    go_wp2_with fail
    refine (P1.out _ _ M3.out).mono ?_
    rintro e W4 ⟨rfl, S4, m4, -⟩
    have M4 := Fact.mk m4
    clear m4
    go_wp2_with fail
    refine (P2.out _ _ M4.out).mono ?_
    rintro e W5 ⟨rfl, S5, m5, -⟩
    have M5 := Fact.mk m5
    clear m5
    go_wp2_with fail
    refine (SG.out _).mono ?_
    rintro e W6 ⟨rfl, hb6⟩
    have M6 := Fact.mk (M5.out.below hb6)
    clear hb6
    go_wp2_with fail
    refine (P3.out _ _ _ M6.out).mono ?_
    rintro e W7 ⟨rfl, S7, m7, -⟩
    have M7 := Fact.mk m7
    clear m7
    go_wp2
    go_ret
    exact ⟨rfl, S7, M7.out⟩
end Go.Proofs.Ytiogpainajokkaa

namespace Go.Proofs.Ytiogpainajokkaa
open Go.RowKit Go.MapKept
set_option maxHeartbeats 4000000 in
set_option maxRecDepth 100000 in
theorem joins_no (w0 w : World) (X : Nat) (c : GCode) (vs bs is : Value) (now : Int) (m : GMach) (V B S : Value) (h : MSt w0 w X c vs bs is now m V B S) (op t a n : Int) (hop : joinsOp op = false) :
    Calls Try.prog 78 #[.pointer (some ⟨X, 0, none⟩), .agg #[.int .u8 op, .int .u8 t, .int .i64 a, .int .i64 n]] w fun e w' => e = .returned (.bool false) ∧ Below w.heap.size w w' := by
  have hmm := @run_makeMap Try.prog
  have hT : Try.prog.underlying 212 = some (.map 47 211) := Try.underlying212
  have L : KeyLaw Try.prog 47 (.int .u8) mkU8 := keyLaw_int Try.underlying47
  have H := Fact.mk h
  clear h
  go_enter Try.func78, Try.ntmps78
  go_upto_region 2 with (fail)
  have TB := two_blocks w (.cells #[.int .u8 op, .int .u8 t, .int .i64 a, .int .i64 n] 49) (.cells #[.int .u8 t] 210)
  have M2 := Fact.mk (H.out.below TB.1)
  have R2 := Fact.mk TB.2.1
  have c5 : ((w.alloc (.cells #[.int .u8 op, .int .u8 t, .int .i64 a, .int .i64 n] 49)).alloc (.cells #[.int .u8 t] 210)).cell? ⟨w.heap.size + 1, 0, none⟩ = some (.int .u8 t) := by rw [cell_of_row _ _ 0 _ _ _ TB.2.2.1]; rfl
  have C5 := Fact.mk c5
  have l5 : w.heap.size + 1 < ((w.alloc (.cells #[.int .u8 op, .int .u8 t, .int .i64 a, .int .i64 n] 49)).alloc (.cells #[.int .u8 t] 210)).heap.size := by rw [TB.2.2.2]; omega
  have B2 := Fact.mk TB.1
  clear TB
  generalize (w.alloc (.cells #[.int .u8 op, .int .u8 t, .int .i64 a, .int .i64 n] 49)).alloc (.cells #[.int .u8 t] 210) = w2 at *
  go_upto_region 3 with (first | (refine wpList_putB L hT rfl _ _ _ (.inl rfl) rfl w2.heap.size _ _ rfl rfl (by first | exact MapFn.made _ _ | assumption) _ rfl w2.heap.size w2 (Nat.le_refl _) (by first | exact (Below.refl _ w2).alloc (Nat.le_refl _) _ | assumption) ?_; intro w' hm hb; have cz := cell_below hb _ _ C5.out))
  have HM := Fact.mk (show MapFn mkU8 w' w2.heap.size (jfn t) from hm)
  have HB := Fact.mk hb
  have k0 : w'.cell? ⟨w.heap.size, 0, none⟩ = some (.int .u8 op) := cell_below hb _ _ (by rw [cell_of_row _ _ 0 _ _ _ R2.out]; rfl)
  have hv : jfn t op = none := by
    unfold joinsOp at hop
    simp only [Bool.or_eq_false_iff, Bool.and_eq_false_iff, decide_eq_false_iff_not] at hop
    unfold jfn
    repeat rw [if_neg (by omega)]
  have hz : ∀ w, (zeroValue 211).run Try.prog w = .ok .nilFunc w := fun w => by kernel_rfl
  have hl2 := HM.out.run_miss2 L hT hz hv
  have B3 := Fact.mk (B2.out.trans (HB.out.mono B2.out.size))
  clear hm hb cz c5 hmm hz hv
  go_wp2
  go_ret
  exact ⟨rfl, B3.out⟩
end Go.Proofs.Ytiogpainajokkaa

