/- Contract of the runner's disk: the complex quotient by its sixteen cases. -/
import Derived.Test.YtiogpainajokkaaCntM
import Derived.Laws.ComplexQuo
import Derived.WalkLawsBesides
import Derived.Deep.RegionWith
namespace Go.Proofs.Ytiogpainajokkaa
open Go.RowKit
def sgB (b : Bool) : Nat := if b = true then 4607182418800017408 else 13830554455654793216
def ptV (a b : Bool) : Value := .complex .f64 (sgB a) (sgB b)
def turnV (a b c d : Bool) : Value := match cQuoBits (sgB a) (sgB b) (sgB c) (sgB d) with
  | some (re, im) => .complex .f64 re im
  | none => undef
def arB (a b : Bool) : Nat := if a = true then (if b = true then 2 else 1) else (if b = true then 3 else 0)
def turnOf (a b c d : Bool) : Nat := (arB a b + 4 - arB c d) % 4
theorem quo_turn (a b c d : Bool) (w : World) : (binOp .quo 242 (ptV a b) (ptV c d)).run Try.prog w = .ok (turnV a b c d) w := by
  cases a <;> cases b <;> cases c <;> cases d <;> kernel_rfl
theorem turn_1 (a b c d : Bool) (w : World) : (binOp .eql 242 (turnV a b c d) (.complex .f64 0 4607182418800017408)).run Try.prog w = .ok (.bool (decide (turnOf a b c d = 1))) w := by
  cases a <;> cases b <;> cases c <;> cases d <;> kernel_rfl
theorem turn_3 (a b c d : Bool) (w : World) : (binOp .eql 242 (turnV a b c d) (.complex .f64 0 13830554455654793216)).run Try.prog w = .ok (.bool (decide (turnOf a b c d = 3))) w := by
  cases a <;> cases b <;> cases c <;> cases d <;> kernel_rfl
theorem turn_2 (a b c d : Bool) (w : World) : (binOp .eql 242 (turnV a b c d) (.complex .f64 13830554455654793216 0)).run Try.prog w = .ok (.bool (decide (turnOf a b c d = 2))) w := by
  cases a <;> cases b <;> cases c <;> cases d <;> kernel_rfl
theorem turn_guard (x y : Operand) (a b c d : Bool) (re im : Nat) (w : World) : (eqGuard .eql 242 x y (turnV a b c d) (.complex .f64 re im)).run Try.prog w = .ok () w := by
  cases a <;> cases b <;> cases c <;> cases d <;> kernel_rfl
theorem add_re (w : World) : (binOp .add 242 (.complex .f64 13830554455654793216 13830554455654793216) (.complex .f64 4611686018427387904 0)).run Try.prog w = .ok (.complex .f64 4607182418800017408 13830554455654793216) w := by kernel_rfl
theorem add_im (a : Bool) (w : World) : (binOp .add 242 (.complex .f64 (sgB a) 13830554455654793216) (.complex .f64 0 4611686018427387904)).run Try.prog w = .ok (.complex .f64 (sgB a) 4607182418800017408) w := by cases a <;> kernel_rfl
set_option maxRecDepth 100000 in
theorem point_any (a b : Bool) (w : World) : Calls Try.prog 167 #[.bool a, .bool b] w fun e w' => e = .returned (ptV a b) ∧ w' = w := by
  have h1 := add_re
  have h2 := add_im true
  have h3 := add_im false
  simp only [sgB, if_true, Bool.false_eq_true, if_false] at h2 h3
  cases a <;> cases b
  all_goals
    go_enter Try.func167, Try.ntmps167
    go_wp2
    go_ret
    exact ⟨rfl, rfl⟩
def cvD (cv : Int) (reset ran : Bool) (s : Nat) : Int := if reset = true then 0 else if ran = false then cv else if s = 1 then min (cv + 1) 2147483647 else if s = 3 then max (cv - 1) (-2147483648) else cv
def qD (q reset ran : Bool) (s : Nat) : Bool := if reset = true then false else if ran = false then q else if s = 2 then true else q
def diskB (b : GBlock) (x0 x1 x2 : Bool) : GBlock := { b with cv := cvD b.cv x2 b.ran (turnOf x0 x1 b.w0 b.w1), q := qD b.q x2 b.ran (turnOf x0 x1 b.w0 b.w1), ran := true, w1 := x1 }
end Go.Proofs.Ytiogpainajokkaa

namespace Go.Proofs.Ytiogpainajokkaa
open Go.RowKit
set_option maxRecDepth 100000 in
set_option maxHeartbeats 8000000 in
theorem disk_any (w : World) (R B : Nat) (ins : List Int) (now : Int) (rise fall : Bool) (b : GBlock) (x0 x1 x2 : Bool) (h : RunSt w R B ins now rise fall b) (hi : ins.length = 3) (hx0 : onB ins 0 = x0) (hx1 : onB ins 1 = x1) (hx2 : onB ins 2 = x2) (v1 : -2147483648 ≤ b.cv) (v2 : b.cv ≤ 2147483647) :
    Calls Try.prog 160 #[.pointer (some ⟨R, 0, none⟩)] w (CntPost w R B ins now rise fall (diskB b x0 x1 x2)) := by
  have ON0 := on_lit (R := R) (B := B) (now := now) (rise := rise) (fall := fall) (b := b) 0 (by omega) x0 hx0
  have ON1 := on_lit (R := R) (B := B) (now := now) (rise := rise) (fall := fall) (b := b) 1 (by omega) x1 hx1
  have ON2 := on_lit (R := R) (B := B) (now := now) (rise := rise) (fall := fall) (b := b) 2 (by omega) x2 hx2
  have H := Fact.mk h
  have HX1 := Fact.mk hx1
  have hq := quo_turn
  have h1 := turn_1
  have h2 := turn_2
  have h3 := turn_3
  have hgd := turn_guard
  obtain ⟨vs, c0, c1, c2, c3, c4, d0, d1, d2, d3, d4, d5, d6, d7, d8, d9, g0, g1, g2, g3, g4, g5, g6, g7, g8, g9⟩ := h.facts
  clear h hx0 hx1 hx2
  have hlt : turnOf x0 x1 b.w0 b.w1 < 4 := Nat.mod_lt _ (by decide)
  cases x2 with
  | true =>
    clear hlt v1 v2
    go_enter Try.func160, Try.ntmps160
    go_wp2_with fail
    refine wp_region_quiet_lit (by kernel_rfl) (by kernel_rfl) ?_
    repeat (quiet_step (fail))
    refine wpQuiet_step (fun K hK => ?_)
    go_simp
    apply Exists.intro
    refine ⟨fun _ => ?_, hK _ ?_⟩
    · exact Calls.quiet_of_same (ON0 _ (H.out.drewN _))
    clear hK K
    repeat (quiet_step (fail))
    refine wpQuiet_step (fun K hK => ?_)
    go_simp
    apply Exists.intro
    refine ⟨fun _ => ?_, hK _ ?_⟩
    · exact Calls.quiet_of_same (ON1 _ (H.out.drewN _))
    clear hK K
    repeat (quiet_step (fail))
    refine wpQuiet_step (fun K hK => ?_)
    go_simp
    apply Exists.intro
    refine ⟨fun _ => ?_, hK _ ?_⟩
    · exact Calls.quiet_of_same (point_any _ _ _)
    clear hK K
    repeat (quiet_step (fail))
    refine wpQuiet_step (fun K hK => ?_)
    go_simp
    apply Exists.intro
    refine ⟨fun _ => ?_, hK _ ?_⟩
    · exact Calls.quiet_of_same (point_any _ _ _)
    clear hK K
    repeat (quiet_step (fail))
    refine wpQuiet_nil ?_
    rintro _ ⟨nq, rfl⟩
    go_wp2_with fail
    refine (ON2 _ (H.out.drewN _)).mono ?_
    rintro e w' ⟨rfl, rfl⟩
    go_wp2_with fail
    have HB := Fact.mk ((H.out.drewN nq).next (grown_trans (grown_set _ B 7 (.int .i64 0)) (grown_set _ B 8 (.bool false))) (b' := { b with cv := 0, q := false }) (set10_8 (set10_7 (H.out.drewN nq).blk)))
    have ON1' := on_lit (R := R) (B := B) (now := now) (rise := rise) (fall := fall) (b := { b with cv := 0, q := false }) 1 (by omega) x1 HX1.out
    clear ON0 ON1 ON2 hq h1 h2 h3 hgd
    go_region_with (go_at_call 159; refine (ON1' _ HB.out.drew).mono ?_; rintro e w' ⟨rfl, rfl⟩)
    all_goals go_wp2
    all_goals go_end0
    all_goals exact cnt_end HB.out (grown_trans (grown_drewN w nq (some B)) ((grown_trans (grown_set _ B 7 (.int .i64 0)) (grown_set _ B 8 (.bool false))))) (grown_trans (grown_set _ B 3 (.bool true)) (grown_trans (grown_set _ B 2 (.bool x1)) (grown_drew _ _))) (b' := { b with cv := 0, q := false, ran := true, w1 := x1 }) (set10_2 (set10_3 HB.out.blk)) (by unfold diskB cvD qD; simp)
  | false =>
    cases hr : b.ran with
    | false =>
      rw [hr] at d3
      have HR := Fact.mk hr
      clear hr hlt v1 v2
      go_enter Try.func160, Try.ntmps160
      go_wp2_with fail
      refine wp_region_quiet_lit (by kernel_rfl) (by kernel_rfl) ?_
      repeat (quiet_step (fail))
      refine wpQuiet_step (fun K hK => ?_)
      go_simp
      apply Exists.intro
      refine ⟨fun _ => ?_, hK _ ?_⟩
      · exact Calls.quiet_of_same (ON0 _ (H.out.drewN _))
      clear hK K
      repeat (quiet_step (fail))
      refine wpQuiet_step (fun K hK => ?_)
      go_simp
      apply Exists.intro
      refine ⟨fun _ => ?_, hK _ ?_⟩
      · exact Calls.quiet_of_same (ON1 _ (H.out.drewN _))
      clear hK K
      repeat (quiet_step (fail))
      refine wpQuiet_step (fun K hK => ?_)
      go_simp
      apply Exists.intro
      refine ⟨fun _ => ?_, hK _ ?_⟩
      · exact Calls.quiet_of_same (point_any _ _ _)
      clear hK K
      repeat (quiet_step (fail))
      refine wpQuiet_step (fun K hK => ?_)
      go_simp
      apply Exists.intro
      refine ⟨fun _ => ?_, hK _ ?_⟩
      · exact Calls.quiet_of_same (point_any _ _ _)
      clear hK K
      repeat (quiet_step (fail))
      refine wpQuiet_nil ?_
      rintro _ ⟨nq, rfl⟩
      go_wp2_with fail
      refine (ON2 _ (H.out.drewN _)).mono ?_
      rintro e w' ⟨rfl, rfl⟩
      go_wp2_with fail
      have HB := Fact.mk (H.out.drewN nq)
      have ON1' := on_lit (R := R) (B := B) (now := now) (rise := rise) (fall := fall) (b := b) 1 (by omega) x1 HX1.out
      clear ON0 ON1 ON2 hq h1 h2 h3 hgd
      go_region_with (go_at_call 159; refine (ON1' _ HB.out.drew).mono ?_; rintro e w' ⟨rfl, rfl⟩)
      all_goals go_wp2
      all_goals go_end0
      all_goals exact cnt_end HB.out (grown_trans (grown_drewN w nq (some B)) (grown_refl _ _)) (grown_trans (grown_set _ B 3 (.bool true)) (grown_trans (grown_set _ B 2 (.bool x1)) (grown_drew _ _))) (b' := { b with ran := true, w1 := x1 }) (set10_2 (set10_3 HB.out.blk)) (by unfold diskB cvD qD; simp [HR.out])
    | true =>
      rw [hr] at d3
      have HR := Fact.mk hr
      clear hr
      rcases (by omega : turnOf x0 x1 b.w0 b.w1 = 0 ∨ turnOf x0 x1 b.w0 b.w1 = 1 ∨ turnOf x0 x1 b.w0 b.w1 = 2 ∨ turnOf x0 x1 b.w0 b.w1 = 3) with hs | hs | hs | hs
      · have e1 : decide (turnOf x0 x1 b.w0 b.w1 = 1) = false := by rw [hs]; rfl
        have e2 : decide (turnOf x0 x1 b.w0 b.w1 = 2) = false := by rw [hs]; rfl
        have e3 : decide (turnOf x0 x1 b.w0 b.w1 = 3) = false := by rw [hs]; rfl
        have HS := Fact.mk hs
        clear hs hlt v1 v2
        go_enter Try.func160, Try.ntmps160
        go_wp2_with fail
        refine wp_region_quiet_lit (by kernel_rfl) (by kernel_rfl) ?_
        repeat (quiet_step (fail))
        refine wpQuiet_step (fun K hK => ?_)
        go_simp
        apply Exists.intro
        refine ⟨fun _ => ?_, hK _ ?_⟩
        · exact Calls.quiet_of_same (ON0 _ (H.out.drewN _))
        clear hK K
        repeat (quiet_step (fail))
        refine wpQuiet_step (fun K hK => ?_)
        go_simp
        apply Exists.intro
        refine ⟨fun _ => ?_, hK _ ?_⟩
        · exact Calls.quiet_of_same (ON1 _ (H.out.drewN _))
        clear hK K
        repeat (quiet_step (fail))
        refine wpQuiet_step (fun K hK => ?_)
        go_simp
        apply Exists.intro
        refine ⟨fun _ => ?_, hK _ ?_⟩
        · exact Calls.quiet_of_same (point_any _ _ _)
        clear hK K
        repeat (quiet_step (fail))
        refine wpQuiet_step (fun K hK => ?_)
        go_simp
        apply Exists.intro
        refine ⟨fun _ => ?_, hK _ ?_⟩
        · exact Calls.quiet_of_same (point_any _ _ _)
        clear hK K
        repeat (quiet_step (fail))
        refine wpQuiet_nil ?_
        rintro _ ⟨nq, rfl⟩
        go_wp2_with fail
        refine (ON2 _ (H.out.drewN _)).mono ?_
        rintro e w' ⟨rfl, rfl⟩
        go_wp2_with fail
        have HB := Fact.mk (H.out.drewN nq)
        have ON1' := on_lit (R := R) (B := B) (now := now) (rise := rise) (fall := fall) (b := b) 1 (by omega) x1 HX1.out
        clear ON0 ON1 ON2 hq h1 h2 h3 hgd
        go_region_with (go_at_call 159; refine (ON1' _ HB.out.drew).mono ?_; rintro e w' ⟨rfl, rfl⟩)
        all_goals go_wp2
        all_goals go_end0
        all_goals exact cnt_end HB.out (grown_trans (grown_drewN w nq (some B)) (grown_refl _ _)) (grown_trans (grown_set _ B 3 (.bool true)) (grown_trans (grown_set _ B 2 (.bool x1)) (grown_drew _ _))) (b' := { b with ran := true, w1 := x1 }) (set10_2 (set10_3 HB.out.blk)) (by unfold diskB cvD qD; simp [HR.out, HS.out])
      · have e1 : decide (turnOf x0 x1 b.w0 b.w1 = 1) = true := by rw [hs]; rfl
        have HS := Fact.mk hs
        clear hs hlt
        by_cases hm : b.cv < 2147483647
        · have hmin : min (b.cv + 1) 2147483647 = b.cv + 1 := by omega
          have HM := Fact.mk hmin
          clear hmin
          go_enter Try.func160, Try.ntmps160
          go_wp2_with fail
          refine wp_region_quiet_lit (by kernel_rfl) (by kernel_rfl) ?_
          repeat (quiet_step (fail))
          refine wpQuiet_step (fun K hK => ?_)
          go_simp
          apply Exists.intro
          refine ⟨fun _ => ?_, hK _ ?_⟩
          · exact Calls.quiet_of_same (ON0 _ (H.out.drewN _))
          clear hK K
          repeat (quiet_step (fail))
          refine wpQuiet_step (fun K hK => ?_)
          go_simp
          apply Exists.intro
          refine ⟨fun _ => ?_, hK _ ?_⟩
          · exact Calls.quiet_of_same (ON1 _ (H.out.drewN _))
          clear hK K
          repeat (quiet_step (fail))
          refine wpQuiet_step (fun K hK => ?_)
          go_simp
          apply Exists.intro
          refine ⟨fun _ => ?_, hK _ ?_⟩
          · exact Calls.quiet_of_same (point_any _ _ _)
          clear hK K
          repeat (quiet_step (fail))
          refine wpQuiet_step (fun K hK => ?_)
          go_simp
          apply Exists.intro
          refine ⟨fun _ => ?_, hK _ ?_⟩
          · exact Calls.quiet_of_same (point_any _ _ _)
          clear hK K
          repeat (quiet_step (fail))
          refine wpQuiet_nil ?_
          rintro _ ⟨nq, rfl⟩
          go_wp2_with fail
          refine (ON2 _ (H.out.drewN _)).mono ?_
          rintro e w' ⟨rfl, rfl⟩
          go_wp2_with fail
          have HB := Fact.mk ((H.out.drewN nq).next (grown_set _ B 7 (.int .i64 (b.cv + 1))) (b' := { b with cv := b.cv + 1 }) (set10_7 (H.out.drewN nq).blk))
          have ON1' := on_lit (R := R) (B := B) (now := now) (rise := rise) (fall := fall) (b := { b with cv := b.cv + 1 }) 1 (by omega) x1 HX1.out
          clear ON0 ON1 ON2 hq h1 h2 h3 hgd
          go_region_with (go_at_call 159; refine (ON1' _ HB.out.drew).mono ?_; rintro e w' ⟨rfl, rfl⟩)
          all_goals go_wp2
          all_goals go_end0
          all_goals exact cnt_end HB.out (grown_trans (grown_drewN w nq (some B)) ((grown_set _ B 7 (.int .i64 (b.cv + 1))))) (grown_trans (grown_set _ B 3 (.bool true)) (grown_trans (grown_set _ B 2 (.bool x1)) (grown_drew _ _))) (b' := { b with cv := b.cv + 1, ran := true, w1 := x1 }) (set10_2 (set10_3 HB.out.blk)) (by unfold diskB cvD qD; simp [HR.out, HS.out, HM.out])
        · have hmin : min (b.cv + 1) 2147483647 = 2147483647 := by omega
          have hcv : b.cv = 2147483647 := by omega
          have HM := Fact.mk hmin
          clear hmin hm v1 v2
          rw [hcv] at d7
          clear hcv
          go_enter Try.func160, Try.ntmps160
          go_wp2_with fail
          refine wp_region_quiet_lit (by kernel_rfl) (by kernel_rfl) ?_
          repeat (quiet_step (fail))
          refine wpQuiet_step (fun K hK => ?_)
          go_simp
          apply Exists.intro
          refine ⟨fun _ => ?_, hK _ ?_⟩
          · exact Calls.quiet_of_same (ON0 _ (H.out.drewN _))
          clear hK K
          repeat (quiet_step (fail))
          refine wpQuiet_step (fun K hK => ?_)
          go_simp
          apply Exists.intro
          refine ⟨fun _ => ?_, hK _ ?_⟩
          · exact Calls.quiet_of_same (ON1 _ (H.out.drewN _))
          clear hK K
          repeat (quiet_step (fail))
          refine wpQuiet_step (fun K hK => ?_)
          go_simp
          apply Exists.intro
          refine ⟨fun _ => ?_, hK _ ?_⟩
          · exact Calls.quiet_of_same (point_any _ _ _)
          clear hK K
          repeat (quiet_step (fail))
          refine wpQuiet_step (fun K hK => ?_)
          go_simp
          apply Exists.intro
          refine ⟨fun _ => ?_, hK _ ?_⟩
          · exact Calls.quiet_of_same (point_any _ _ _)
          clear hK K
          repeat (quiet_step (fail))
          refine wpQuiet_nil ?_
          rintro _ ⟨nq, rfl⟩
          go_wp2_with fail
          refine (ON2 _ (H.out.drewN _)).mono ?_
          rintro e w' ⟨rfl, rfl⟩
          go_wp2_with fail
          have HB := Fact.mk ((H.out.drewN nq).next (grown_set _ B 7 (.int .i64 2147483647)) (b' := { b with cv := 2147483647 }) (set10_7 (H.out.drewN nq).blk))
          have ON1' := on_lit (R := R) (B := B) (now := now) (rise := rise) (fall := fall) (b := { b with cv := 2147483647 }) 1 (by omega) x1 HX1.out
          clear ON0 ON1 ON2 hq h1 h2 h3 hgd
          go_region_with (go_at_call 159; refine (ON1' _ HB.out.drew).mono ?_; rintro e w' ⟨rfl, rfl⟩)
          all_goals go_wp2
          all_goals go_end0
          all_goals exact cnt_end HB.out (grown_trans (grown_drewN w nq (some B)) ((grown_set _ B 7 (.int .i64 2147483647)))) (grown_trans (grown_set _ B 3 (.bool true)) (grown_trans (grown_set _ B 2 (.bool x1)) (grown_drew _ _))) (b' := { b with cv := 2147483647, ran := true, w1 := x1 }) (set10_2 (set10_3 HB.out.blk)) (by unfold diskB cvD qD; simp [HR.out, HS.out, HM.out])
      · have e1 : decide (turnOf x0 x1 b.w0 b.w1 = 1) = false := by rw [hs]; rfl
        have e2 : decide (turnOf x0 x1 b.w0 b.w1 = 2) = true := by rw [hs]; rfl
        have e3 : decide (turnOf x0 x1 b.w0 b.w1 = 3) = false := by rw [hs]; rfl
        have HS := Fact.mk hs
        clear hs hlt v1 v2
        go_enter Try.func160, Try.ntmps160
        go_wp2_with fail
        refine wp_region_quiet_lit (by kernel_rfl) (by kernel_rfl) ?_
        repeat (quiet_step (fail))
        refine wpQuiet_step (fun K hK => ?_)
        go_simp
        apply Exists.intro
        refine ⟨fun _ => ?_, hK _ ?_⟩
        · exact Calls.quiet_of_same (ON0 _ (H.out.drewN _))
        clear hK K
        repeat (quiet_step (fail))
        refine wpQuiet_step (fun K hK => ?_)
        go_simp
        apply Exists.intro
        refine ⟨fun _ => ?_, hK _ ?_⟩
        · exact Calls.quiet_of_same (ON1 _ (H.out.drewN _))
        clear hK K
        repeat (quiet_step (fail))
        refine wpQuiet_step (fun K hK => ?_)
        go_simp
        apply Exists.intro
        refine ⟨fun _ => ?_, hK _ ?_⟩
        · exact Calls.quiet_of_same (point_any _ _ _)
        clear hK K
        repeat (quiet_step (fail))
        refine wpQuiet_step (fun K hK => ?_)
        go_simp
        apply Exists.intro
        refine ⟨fun _ => ?_, hK _ ?_⟩
        · exact Calls.quiet_of_same (point_any _ _ _)
        clear hK K
        repeat (quiet_step (fail))
        refine wpQuiet_nil ?_
        rintro _ ⟨nq, rfl⟩
        go_wp2_with fail
        refine (ON2 _ (H.out.drewN _)).mono ?_
        rintro e w' ⟨rfl, rfl⟩
        go_wp2_with fail
        have HB := Fact.mk ((H.out.drewN nq).next (grown_set _ B 8 (.bool true)) (b' := { b with q := true }) (set10_8 (H.out.drewN nq).blk))
        have ON1' := on_lit (R := R) (B := B) (now := now) (rise := rise) (fall := fall) (b := { b with q := true }) 1 (by omega) x1 HX1.out
        clear ON0 ON1 ON2 hq h1 h2 h3 hgd
        go_region_with (go_at_call 159; refine (ON1' _ HB.out.drew).mono ?_; rintro e w' ⟨rfl, rfl⟩)
        all_goals go_wp2
        all_goals go_end0
        all_goals exact cnt_end HB.out (grown_trans (grown_drewN w nq (some B)) ((grown_set _ B 8 (.bool true)))) (grown_trans (grown_set _ B 3 (.bool true)) (grown_trans (grown_set _ B 2 (.bool x1)) (grown_drew _ _))) (b' := { b with q := true, ran := true, w1 := x1 }) (set10_2 (set10_3 HB.out.blk)) (by unfold diskB cvD qD; simp [HR.out, HS.out])
      · have e1 : decide (turnOf x0 x1 b.w0 b.w1 = 1) = false := by rw [hs]; rfl
        have e3 : decide (turnOf x0 x1 b.w0 b.w1 = 3) = true := by rw [hs]; rfl
        have HS := Fact.mk hs
        clear hs hlt
        by_cases hm : -2147483648 < b.cv
        · have hmin : max (b.cv - 1) (-2147483648) = b.cv - 1 := by omega
          have HM := Fact.mk hmin
          clear hmin
          go_enter Try.func160, Try.ntmps160
          go_wp2_with fail
          refine wp_region_quiet_lit (by kernel_rfl) (by kernel_rfl) ?_
          repeat (quiet_step (fail))
          refine wpQuiet_step (fun K hK => ?_)
          go_simp
          apply Exists.intro
          refine ⟨fun _ => ?_, hK _ ?_⟩
          · exact Calls.quiet_of_same (ON0 _ (H.out.drewN _))
          clear hK K
          repeat (quiet_step (fail))
          refine wpQuiet_step (fun K hK => ?_)
          go_simp
          apply Exists.intro
          refine ⟨fun _ => ?_, hK _ ?_⟩
          · exact Calls.quiet_of_same (ON1 _ (H.out.drewN _))
          clear hK K
          repeat (quiet_step (fail))
          refine wpQuiet_step (fun K hK => ?_)
          go_simp
          apply Exists.intro
          refine ⟨fun _ => ?_, hK _ ?_⟩
          · exact Calls.quiet_of_same (point_any _ _ _)
          clear hK K
          repeat (quiet_step (fail))
          refine wpQuiet_step (fun K hK => ?_)
          go_simp
          apply Exists.intro
          refine ⟨fun _ => ?_, hK _ ?_⟩
          · exact Calls.quiet_of_same (point_any _ _ _)
          clear hK K
          repeat (quiet_step (fail))
          refine wpQuiet_nil ?_
          rintro _ ⟨nq, rfl⟩
          go_wp2_with fail
          refine (ON2 _ (H.out.drewN _)).mono ?_
          rintro e w' ⟨rfl, rfl⟩
          go_wp2_with fail
          have HB := Fact.mk ((H.out.drewN nq).next (grown_set _ B 7 (.int .i64 (b.cv - 1))) (b' := { b with cv := b.cv - 1 }) (set10_7 (H.out.drewN nq).blk))
          have ON1' := on_lit (R := R) (B := B) (now := now) (rise := rise) (fall := fall) (b := { b with cv := b.cv - 1 }) 1 (by omega) x1 HX1.out
          clear ON0 ON1 ON2 hq h1 h2 h3 hgd
          go_region_with (go_at_call 159; refine (ON1' _ HB.out.drew).mono ?_; rintro e w' ⟨rfl, rfl⟩)
          all_goals go_wp2
          all_goals go_end0
          all_goals exact cnt_end HB.out (grown_trans (grown_drewN w nq (some B)) ((grown_set _ B 7 (.int .i64 (b.cv - 1))))) (grown_trans (grown_set _ B 3 (.bool true)) (grown_trans (grown_set _ B 2 (.bool x1)) (grown_drew _ _))) (b' := { b with cv := b.cv - 1, ran := true, w1 := x1 }) (set10_2 (set10_3 HB.out.blk)) (by unfold diskB cvD qD; simp [HR.out, HS.out, HM.out])
        · have hmin : max (b.cv - 1) (-2147483648) = -2147483648 := by omega
          have hcv : b.cv = -2147483648 := by omega
          have HM := Fact.mk hmin
          clear hmin hm v1 v2
          rw [hcv] at d7
          clear hcv
          go_enter Try.func160, Try.ntmps160
          go_wp2_with fail
          refine wp_region_quiet_lit (by kernel_rfl) (by kernel_rfl) ?_
          repeat (quiet_step (fail))
          refine wpQuiet_step (fun K hK => ?_)
          go_simp
          apply Exists.intro
          refine ⟨fun _ => ?_, hK _ ?_⟩
          · exact Calls.quiet_of_same (ON0 _ (H.out.drewN _))
          clear hK K
          repeat (quiet_step (fail))
          refine wpQuiet_step (fun K hK => ?_)
          go_simp
          apply Exists.intro
          refine ⟨fun _ => ?_, hK _ ?_⟩
          · exact Calls.quiet_of_same (ON1 _ (H.out.drewN _))
          clear hK K
          repeat (quiet_step (fail))
          refine wpQuiet_step (fun K hK => ?_)
          go_simp
          apply Exists.intro
          refine ⟨fun _ => ?_, hK _ ?_⟩
          · exact Calls.quiet_of_same (point_any _ _ _)
          clear hK K
          repeat (quiet_step (fail))
          refine wpQuiet_step (fun K hK => ?_)
          go_simp
          apply Exists.intro
          refine ⟨fun _ => ?_, hK _ ?_⟩
          · exact Calls.quiet_of_same (point_any _ _ _)
          clear hK K
          repeat (quiet_step (fail))
          refine wpQuiet_nil ?_
          rintro _ ⟨nq, rfl⟩
          go_wp2_with fail
          refine (ON2 _ (H.out.drewN _)).mono ?_
          rintro e w' ⟨rfl, rfl⟩
          go_wp2_with fail
          have HB := Fact.mk ((H.out.drewN nq).next (grown_set _ B 7 (.int .i64 (-2147483648))) (b' := { b with cv := -2147483648 }) (set10_7 (H.out.drewN nq).blk))
          have ON1' := on_lit (R := R) (B := B) (now := now) (rise := rise) (fall := fall) (b := { b with cv := -2147483648 }) 1 (by omega) x1 HX1.out
          clear ON0 ON1 ON2 hq h1 h2 h3 hgd
          go_region_with (go_at_call 159; refine (ON1' _ HB.out.drew).mono ?_; rintro e w' ⟨rfl, rfl⟩)
          all_goals go_wp2
          all_goals go_end0
          all_goals exact cnt_end HB.out (grown_trans (grown_drewN w nq (some B)) ((grown_set _ B 7 (.int .i64 (-2147483648))))) (grown_trans (grown_set _ B 3 (.bool true)) (grown_trans (grown_set _ B 2 (.bool x1)) (grown_drew _ _))) (b' := { b with cv := -2147483648, ran := true, w1 := x1 }) (set10_2 (set10_3 HB.out.blk)) (by unfold diskB cvD qD; simp [HR.out, HS.out, HM.out])
end Go.Proofs.Ytiogpainajokkaa

