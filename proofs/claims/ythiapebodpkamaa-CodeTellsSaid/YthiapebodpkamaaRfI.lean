/- Contract of blockhouseref13.ins, Op by Op. Printed by gen_r13i.py. -/
import Derived.Test.YthiapebodpkamaaRfA
import Derived.Test.YthiapebodpkamaaFitsC
import Derived.Deep.DeepCutAuto
namespace Go.Proofs.Ythiapebodpkamaa
open Go.RowKit
theorem below_one (n : Int) : belowB 1 n = (n == 0) := by
  unfold belowB
  rw [Bool.eq_iff_iff]
  simp only [Bool.and_eq_true, decide_eq_true_eq, beq_iff_eq]
  omega
theorem within_two (t n : Int) : withinB t n = (decide ((rangeOf t).1 ≤ n) && decide (n ≤ (rangeOf t).2)) := rfl
theorem below_jump (m : Nat) (n : Int) : belowB ((m : Int) + 1) n = (decide (0 ≤ n) && decide (n ≤ (m : Int))) := by
  unfold belowB
  congr 1
  rw [decide_eq_decide]
  omega
/-- The boxes of a program and of an instruction. -/
abbrev rfW (w : World) (c : GCode) (A1 A2 A3 : Option Addr) (c1 c2 c3 : Nat) (o t a n : Int) : World := (w.alloc (Obj.cells #[.string c.name, .slice A1 c.vars.length c1, .slice A2 c.blocks.length c2, .slice A3 c.ins.length c3] 32)).alloc (Obj.cells #[.int .u8 o, .int .u8 t, .int .i64 a, .int .i64 n] 38)
theorem rfit_1 (c : GCode) (t a n : Int) : fitsB c ⟨1, t, a, n⟩ = (typedB t && (a == 0) && decide ((rangeOf t).1 ≤ n) && decide (n ≤ (rangeOf t).2)) := by
  have e : fitsB c ⟨1, t, a, n⟩ = (chk c ⟨1, t, a, n⟩ (shapeStr 1)[0] t && chk c ⟨1, t, a, n⟩ (shapeStr 1)[1] a && chk c ⟨1, t, a, n⟩ (shapeStr 1)[2] n) := rfl
  rw [e]
  simp [chk, shapeStr, within_two, below_one]
  try (simp only [Bool.and_assoc])
set_option maxHeartbeats 2000000 in
set_option maxRecDepth 100000 in
theorem rIns_1 (c : GCode) (A1 A2 A3 : Option Addr) (c1 c2 c3 : Nat) (t a n : Int) (ht : 0 ≤ t ∧ t ≤ 255) (hn : (c.vars.length : Int) ≤ 9223372036854775807 ∧ (c.blocks.length : Int) ≤ 9223372036854775807 ∧ (c.ins.length : Int) ≤ 9223372036854775807) (w : World) :
    Calls Try.prog 67 #[.agg #[.string c.name, .slice A1 c.vars.length c1, .slice A2 c.blocks.length c2, .slice A3 c.ins.length c3], .agg #[.int .u8 1, .int .u8 t, .int .i64 a, .int .i64 n]] w fun e w' => e = .returned (.bool (fitsB c ⟨1, t, a, n⟩)) ∧ Below w.heap.size w w' := by
  obtain ⟨n1, n2, n3⟩ := hn
  obtain ⟨ht0, ht1⟩ := ht
  rw [rfit_1]
  obtain ⟨lo, hlo⟩ : ∃ lo, (rangeOf t).1 = lo := ⟨_, rfl⟩
  obtain ⟨hi, hhi⟩ : ∃ hi, (rangeOf t).2 = hi := ⟨_, rfl⟩
  rw [hlo, hhi]
  obtain ⟨bT, hbT⟩ : ∃ b, typedB t = b := ⟨_, rfl⟩
  obtain ⟨bA, hbA⟩ : ∃ b, (a == 0) = b := ⟨_, rfl⟩
  obtain ⟨bL, hbL⟩ : ∃ b, decide (lo ≤ n) = b := ⟨_, rfl⟩
  obtain ⟨bH, hbH⟩ : ∃ b, decide (n ≤ hi) = b := ⟨_, rfl⟩
  rw [hbT, hbA, hbL, hbH]
  have HbT := Fact.mk hbT
  have HbA := Fact.mk hbA
  have HbL := Fact.mk hbL
  have HbH := Fact.mk hbH
  clear hbT hbA hbL hbH
  go_enter Try.func67, Try.ntmps67
  go_wp2_with fail
  refine (rRange_any _ _).mono ?_
  rintro e w' ⟨rfl, rfl⟩
  rw [hlo, hhi]
  go_wp2_with fail
  refine (rKind_any _ _).mono ?_
  rintro e w' ⟨rfl, rfl⟩
  go_upto_region 3 with (fail)
  go_cut [8] from 22 to 32 (fun s wx => s = .bool (belowB c.vars.length a) ∧ wx = rfW w c A1 A2 A3 c1 c2 c3 1 t a n)
  case first =>
    by_cases hp : 0 ≤ a
    · have e1 : decide (0 ≤ a) = true := decide_eq_true hp
      go_wp2_with fail
      go_meet
      exact ⟨by unfold belowB; rw [e1]; rfl, rfl⟩
    · have e1 : decide (0 ≤ a) = false := decide_eq_false hp
      clear hp
      go_wp2_with fail
      go_meet
      exact ⟨by unfold belowB; rw [e1]; rfl, rfl⟩
  case rest =>
    obtain ⟨rfl, rfl⟩ := hcut
    go_upto_region 4 with (fail)
    go_cut [9] from 33 to 43 (fun s wx => s = .bool (belowB c.blocks.length a) ∧ wx = rfW w c A1 A2 A3 c1 c2 c3 1 t a n)
    case first =>
      by_cases hp : 0 ≤ a
      · have e1 : decide (0 ≤ a) = true := decide_eq_true hp
        go_wp2_with fail
        go_meet
        exact ⟨by unfold belowB; rw [e1]; rfl, rfl⟩
      · have e1 : decide (0 ≤ a) = false := decide_eq_false hp
        clear hp
        go_wp2_with fail
        go_meet
        exact ⟨by unfold belowB; rw [e1]; rfl, rfl⟩
    case rest =>
      obtain ⟨rfl, rfl⟩ := hcut
      have hbT := HbT.out
      have hbA := HbA.out
      have hbL := HbL.out
      have hbH := HbH.out
      cases bT with
      | false =>
        go_wp2_with (first | (go_at_call 89; refine (rWhole_any _ _).mono ?_; rintro e w' ⟨rfl, rfl⟩; (try rw [hbW])) | (go_at_call 66; refine (rKind_any _ _).mono ?_; rintro e w' ⟨rfl, rfl⟩; (try rw [hbK])))
        go_ret
        exact ⟨ret_bool (by simp), (two_blocks w _ _).1⟩
      | true =>
        cases bA with
        | false =>
          go_wp2_with (first | (go_at_call 89; refine (rWhole_any _ _).mono ?_; rintro e w' ⟨rfl, rfl⟩; (try rw [hbW])) | (go_at_call 66; refine (rKind_any _ _).mono ?_; rintro e w' ⟨rfl, rfl⟩; (try rw [hbK])))
          go_ret
          exact ⟨ret_bool (by simp), (two_blocks w _ _).1⟩
        | true =>
          cases bL with
          | false =>
            go_wp2_with (first | (go_at_call 89; refine (rWhole_any _ _).mono ?_; rintro e w' ⟨rfl, rfl⟩; (try rw [hbW])) | (go_at_call 66; refine (rKind_any _ _).mono ?_; rintro e w' ⟨rfl, rfl⟩; (try rw [hbK])))
            go_ret
            exact ⟨ret_bool (by simp), (two_blocks w _ _).1⟩
          | true =>
            go_wp2_with (first | (go_at_call 89; refine (rWhole_any _ _).mono ?_; rintro e w' ⟨rfl, rfl⟩; (try rw [hbW])) | (go_at_call 66; refine (rKind_any _ _).mono ?_; rintro e w' ⟨rfl, rfl⟩; (try rw [hbK])))
            go_ret
            exact ⟨ret_bool (by simp), (two_blocks w _ _).1⟩
theorem rfit_2 (c : GCode) (t a n : Int) : fitsB c ⟨2, t, a, n⟩ = ((t == 0) && belowB c.vars.length a && (n == 0)) := by
  have e : fitsB c ⟨2, t, a, n⟩ = (chk c ⟨2, t, a, n⟩ (shapeStr 2)[0] t && chk c ⟨2, t, a, n⟩ (shapeStr 2)[1] a && chk c ⟨2, t, a, n⟩ (shapeStr 2)[2] n) := rfl
  rw [e]
  simp [chk, shapeStr, below_one]
  try (simp only [Bool.and_assoc])
set_option maxHeartbeats 2000000 in
set_option maxRecDepth 100000 in
theorem rIns_2 (c : GCode) (A1 A2 A3 : Option Addr) (c1 c2 c3 : Nat) (t a n : Int) (ht : 0 ≤ t ∧ t ≤ 255) (hn : (c.vars.length : Int) ≤ 9223372036854775807 ∧ (c.blocks.length : Int) ≤ 9223372036854775807 ∧ (c.ins.length : Int) ≤ 9223372036854775807) (w : World) :
    Calls Try.prog 67 #[.agg #[.string c.name, .slice A1 c.vars.length c1, .slice A2 c.blocks.length c2, .slice A3 c.ins.length c3], .agg #[.int .u8 2, .int .u8 t, .int .i64 a, .int .i64 n]] w fun e w' => e = .returned (.bool (fitsB c ⟨2, t, a, n⟩)) ∧ Below w.heap.size w w' := by
  obtain ⟨n1, n2, n3⟩ := hn
  obtain ⟨ht0, ht1⟩ := ht
  rw [rfit_2]
  obtain ⟨lo, hlo⟩ : ∃ lo, (rangeOf t).1 = lo := ⟨_, rfl⟩
  obtain ⟨hi, hhi⟩ : ∃ hi, (rangeOf t).2 = hi := ⟨_, rfl⟩
  obtain ⟨bt, hbt⟩ : ∃ b, (t == 0) = b := ⟨_, rfl⟩
  obtain ⟨bV, hbV⟩ : ∃ b, belowB c.vars.length a = b := ⟨_, rfl⟩
  obtain ⟨bN, hbN⟩ : ∃ b, (n == 0) = b := ⟨_, rfl⟩
  rw [hbt, hbV, hbN]
  have Hbt := Fact.mk hbt
  have HbV := Fact.mk hbV
  have HbN := Fact.mk hbN
  clear hbt hbV hbN
  go_enter Try.func67, Try.ntmps67
  go_wp2_with fail
  refine (rRange_any _ _).mono ?_
  rintro e w' ⟨rfl, rfl⟩
  rw [hlo, hhi]
  go_wp2_with fail
  refine (rKind_any _ _).mono ?_
  rintro e w' ⟨rfl, rfl⟩
  go_upto_region 3 with (fail)
  go_cut [8] from 22 to 32 (fun s wx => s = .bool (belowB c.vars.length a) ∧ wx = rfW w c A1 A2 A3 c1 c2 c3 2 t a n)
  case first =>
    by_cases hp : 0 ≤ a
    · have e1 : decide (0 ≤ a) = true := decide_eq_true hp
      go_wp2_with fail
      go_meet
      exact ⟨by unfold belowB; rw [e1]; rfl, rfl⟩
    · have e1 : decide (0 ≤ a) = false := decide_eq_false hp
      clear hp
      go_wp2_with fail
      go_meet
      exact ⟨by unfold belowB; rw [e1]; rfl, rfl⟩
  case rest =>
    obtain ⟨rfl, rfl⟩ := hcut
    go_upto_region 4 with (fail)
    go_cut [9] from 33 to 43 (fun s wx => s = .bool (belowB c.blocks.length a) ∧ wx = rfW w c A1 A2 A3 c1 c2 c3 2 t a n)
    case first =>
      by_cases hp : 0 ≤ a
      · have e1 : decide (0 ≤ a) = true := decide_eq_true hp
        go_wp2_with fail
        go_meet
        exact ⟨by unfold belowB; rw [e1]; rfl, rfl⟩
      · have e1 : decide (0 ≤ a) = false := decide_eq_false hp
        clear hp
        go_wp2_with fail
        go_meet
        exact ⟨by unfold belowB; rw [e1]; rfl, rfl⟩
    case rest =>
      obtain ⟨rfl, rfl⟩ := hcut
      have hbt := Hbt.out
      have hbV := HbV.out
      have hbN := HbN.out
      cases bt with
      | false =>
        go_wp2_with (first | (go_at_call 89; refine (rWhole_any _ _).mono ?_; rintro e w' ⟨rfl, rfl⟩; (try rw [hbW])) | (go_at_call 66; refine (rKind_any _ _).mono ?_; rintro e w' ⟨rfl, rfl⟩; (try rw [hbK])))
        go_ret
        exact ⟨ret_bool (by simp), (two_blocks w _ _).1⟩
      | true =>
        cases bV with
        | false =>
          go_wp2_with (first | (go_at_call 89; refine (rWhole_any _ _).mono ?_; rintro e w' ⟨rfl, rfl⟩; (try rw [hbW])) | (go_at_call 66; refine (rKind_any _ _).mono ?_; rintro e w' ⟨rfl, rfl⟩; (try rw [hbK])))
          go_ret
          exact ⟨ret_bool (by simp), (two_blocks w _ _).1⟩
        | true =>
          go_wp2_with (first | (go_at_call 89; refine (rWhole_any _ _).mono ?_; rintro e w' ⟨rfl, rfl⟩; (try rw [hbW])) | (go_at_call 66; refine (rKind_any _ _).mono ?_; rintro e w' ⟨rfl, rfl⟩; (try rw [hbK])))
          go_ret
          exact ⟨ret_bool (by simp), (two_blocks w _ _).1⟩
theorem rfit_4 (c : GCode) (t a n : Int) : fitsB c ⟨4, t, a, n⟩ = (wholeB t && (a == 0) && (n == 0)) := by
  have e : fitsB c ⟨4, t, a, n⟩ = (chk c ⟨4, t, a, n⟩ (shapeStr 4)[0] t && chk c ⟨4, t, a, n⟩ (shapeStr 4)[1] a && chk c ⟨4, t, a, n⟩ (shapeStr 4)[2] n) := rfl
  rw [e]
  simp [chk, shapeStr, below_one]
  try (simp only [Bool.and_assoc])
set_option maxHeartbeats 2000000 in
set_option maxRecDepth 100000 in
theorem rIns_4 (c : GCode) (A1 A2 A3 : Option Addr) (c1 c2 c3 : Nat) (t a n : Int) (ht : 0 ≤ t ∧ t ≤ 255) (hn : (c.vars.length : Int) ≤ 9223372036854775807 ∧ (c.blocks.length : Int) ≤ 9223372036854775807 ∧ (c.ins.length : Int) ≤ 9223372036854775807) (w : World) :
    Calls Try.prog 67 #[.agg #[.string c.name, .slice A1 c.vars.length c1, .slice A2 c.blocks.length c2, .slice A3 c.ins.length c3], .agg #[.int .u8 4, .int .u8 t, .int .i64 a, .int .i64 n]] w fun e w' => e = .returned (.bool (fitsB c ⟨4, t, a, n⟩)) ∧ Below w.heap.size w w' := by
  obtain ⟨n1, n2, n3⟩ := hn
  obtain ⟨ht0, ht1⟩ := ht
  rw [rfit_4]
  obtain ⟨lo, hlo⟩ : ∃ lo, (rangeOf t).1 = lo := ⟨_, rfl⟩
  obtain ⟨hi, hhi⟩ : ∃ hi, (rangeOf t).2 = hi := ⟨_, rfl⟩
  obtain ⟨bW, hbW⟩ : ∃ b, wholeB t = b := ⟨_, rfl⟩
  obtain ⟨bA, hbA⟩ : ∃ b, (a == 0) = b := ⟨_, rfl⟩
  obtain ⟨bN, hbN⟩ : ∃ b, (n == 0) = b := ⟨_, rfl⟩
  rw [hbW, hbA, hbN]
  have HbW := Fact.mk hbW
  have HbA := Fact.mk hbA
  have HbN := Fact.mk hbN
  clear hbW hbA hbN
  go_enter Try.func67, Try.ntmps67
  go_wp2_with fail
  refine (rRange_any _ _).mono ?_
  rintro e w' ⟨rfl, rfl⟩
  rw [hlo, hhi]
  go_wp2_with fail
  refine (rKind_any _ _).mono ?_
  rintro e w' ⟨rfl, rfl⟩
  go_upto_region 3 with (fail)
  go_cut [8] from 22 to 32 (fun s wx => s = .bool (belowB c.vars.length a) ∧ wx = rfW w c A1 A2 A3 c1 c2 c3 4 t a n)
  case first =>
    by_cases hp : 0 ≤ a
    · have e1 : decide (0 ≤ a) = true := decide_eq_true hp
      go_wp2_with fail
      go_meet
      exact ⟨by unfold belowB; rw [e1]; rfl, rfl⟩
    · have e1 : decide (0 ≤ a) = false := decide_eq_false hp
      clear hp
      go_wp2_with fail
      go_meet
      exact ⟨by unfold belowB; rw [e1]; rfl, rfl⟩
  case rest =>
    obtain ⟨rfl, rfl⟩ := hcut
    go_upto_region 4 with (fail)
    go_cut [9] from 33 to 43 (fun s wx => s = .bool (belowB c.blocks.length a) ∧ wx = rfW w c A1 A2 A3 c1 c2 c3 4 t a n)
    case first =>
      by_cases hp : 0 ≤ a
      · have e1 : decide (0 ≤ a) = true := decide_eq_true hp
        go_wp2_with fail
        go_meet
        exact ⟨by unfold belowB; rw [e1]; rfl, rfl⟩
      · have e1 : decide (0 ≤ a) = false := decide_eq_false hp
        clear hp
        go_wp2_with fail
        go_meet
        exact ⟨by unfold belowB; rw [e1]; rfl, rfl⟩
    case rest =>
      obtain ⟨rfl, rfl⟩ := hcut
      have hbW := HbW.out
      have hbA := HbA.out
      have hbN := HbN.out
      cases bW with
      | false =>
        go_wp2_with (first | (go_at_call 89; refine (rWhole_any _ _).mono ?_; rintro e w' ⟨rfl, rfl⟩; (try rw [hbW])) | (go_at_call 66; refine (rKind_any _ _).mono ?_; rintro e w' ⟨rfl, rfl⟩; (try rw [hbK])))
        go_ret
        exact ⟨ret_bool (by simp), (two_blocks w _ _).1⟩
      | true =>
        cases bA with
        | false =>
          go_wp2_with (first | (go_at_call 89; refine (rWhole_any _ _).mono ?_; rintro e w' ⟨rfl, rfl⟩; (try rw [hbW])) | (go_at_call 66; refine (rKind_any _ _).mono ?_; rintro e w' ⟨rfl, rfl⟩; (try rw [hbK])))
          go_ret
          exact ⟨ret_bool (by simp), (two_blocks w _ _).1⟩
        | true =>
          go_wp2_with (first | (go_at_call 89; refine (rWhole_any _ _).mono ?_; rintro e w' ⟨rfl, rfl⟩; (try rw [hbW])) | (go_at_call 66; refine (rKind_any _ _).mono ?_; rintro e w' ⟨rfl, rfl⟩; (try rw [hbK])))
          go_ret
          exact ⟨ret_bool (by simp), (two_blocks w _ _).1⟩
theorem rfit_5 (c : GCode) (t a n : Int) : fitsB c ⟨5, t, a, n⟩ = (wholeB t && (a == 0) && (n == 0)) := by
  have e : fitsB c ⟨5, t, a, n⟩ = (chk c ⟨5, t, a, n⟩ (shapeStr 5)[0] t && chk c ⟨5, t, a, n⟩ (shapeStr 5)[1] a && chk c ⟨5, t, a, n⟩ (shapeStr 5)[2] n) := rfl
  rw [e]
  simp [chk, shapeStr, below_one]
  try (simp only [Bool.and_assoc])
set_option maxHeartbeats 2000000 in
set_option maxRecDepth 100000 in
theorem rIns_5 (c : GCode) (A1 A2 A3 : Option Addr) (c1 c2 c3 : Nat) (t a n : Int) (ht : 0 ≤ t ∧ t ≤ 255) (hn : (c.vars.length : Int) ≤ 9223372036854775807 ∧ (c.blocks.length : Int) ≤ 9223372036854775807 ∧ (c.ins.length : Int) ≤ 9223372036854775807) (w : World) :
    Calls Try.prog 67 #[.agg #[.string c.name, .slice A1 c.vars.length c1, .slice A2 c.blocks.length c2, .slice A3 c.ins.length c3], .agg #[.int .u8 5, .int .u8 t, .int .i64 a, .int .i64 n]] w fun e w' => e = .returned (.bool (fitsB c ⟨5, t, a, n⟩)) ∧ Below w.heap.size w w' := by
  obtain ⟨n1, n2, n3⟩ := hn
  obtain ⟨ht0, ht1⟩ := ht
  rw [rfit_5]
  obtain ⟨lo, hlo⟩ : ∃ lo, (rangeOf t).1 = lo := ⟨_, rfl⟩
  obtain ⟨hi, hhi⟩ : ∃ hi, (rangeOf t).2 = hi := ⟨_, rfl⟩
  obtain ⟨bW, hbW⟩ : ∃ b, wholeB t = b := ⟨_, rfl⟩
  obtain ⟨bA, hbA⟩ : ∃ b, (a == 0) = b := ⟨_, rfl⟩
  obtain ⟨bN, hbN⟩ : ∃ b, (n == 0) = b := ⟨_, rfl⟩
  rw [hbW, hbA, hbN]
  have HbW := Fact.mk hbW
  have HbA := Fact.mk hbA
  have HbN := Fact.mk hbN
  clear hbW hbA hbN
  go_enter Try.func67, Try.ntmps67
  go_wp2_with fail
  refine (rRange_any _ _).mono ?_
  rintro e w' ⟨rfl, rfl⟩
  rw [hlo, hhi]
  go_wp2_with fail
  refine (rKind_any _ _).mono ?_
  rintro e w' ⟨rfl, rfl⟩
  go_upto_region 3 with (fail)
  go_cut [8] from 22 to 32 (fun s wx => s = .bool (belowB c.vars.length a) ∧ wx = rfW w c A1 A2 A3 c1 c2 c3 5 t a n)
  case first =>
    by_cases hp : 0 ≤ a
    · have e1 : decide (0 ≤ a) = true := decide_eq_true hp
      go_wp2_with fail
      go_meet
      exact ⟨by unfold belowB; rw [e1]; rfl, rfl⟩
    · have e1 : decide (0 ≤ a) = false := decide_eq_false hp
      clear hp
      go_wp2_with fail
      go_meet
      exact ⟨by unfold belowB; rw [e1]; rfl, rfl⟩
  case rest =>
    obtain ⟨rfl, rfl⟩ := hcut
    go_upto_region 4 with (fail)
    go_cut [9] from 33 to 43 (fun s wx => s = .bool (belowB c.blocks.length a) ∧ wx = rfW w c A1 A2 A3 c1 c2 c3 5 t a n)
    case first =>
      by_cases hp : 0 ≤ a
      · have e1 : decide (0 ≤ a) = true := decide_eq_true hp
        go_wp2_with fail
        go_meet
        exact ⟨by unfold belowB; rw [e1]; rfl, rfl⟩
      · have e1 : decide (0 ≤ a) = false := decide_eq_false hp
        clear hp
        go_wp2_with fail
        go_meet
        exact ⟨by unfold belowB; rw [e1]; rfl, rfl⟩
    case rest =>
      obtain ⟨rfl, rfl⟩ := hcut
      have hbW := HbW.out
      have hbA := HbA.out
      have hbN := HbN.out
      cases bW with
      | false =>
        go_wp2_with (first | (go_at_call 89; refine (rWhole_any _ _).mono ?_; rintro e w' ⟨rfl, rfl⟩; (try rw [hbW])) | (go_at_call 66; refine (rKind_any _ _).mono ?_; rintro e w' ⟨rfl, rfl⟩; (try rw [hbK])))
        go_ret
        exact ⟨ret_bool (by simp), (two_blocks w _ _).1⟩
      | true =>
        cases bA with
        | false =>
          go_wp2_with (first | (go_at_call 89; refine (rWhole_any _ _).mono ?_; rintro e w' ⟨rfl, rfl⟩; (try rw [hbW])) | (go_at_call 66; refine (rKind_any _ _).mono ?_; rintro e w' ⟨rfl, rfl⟩; (try rw [hbK])))
          go_ret
          exact ⟨ret_bool (by simp), (two_blocks w _ _).1⟩
        | true =>
          go_wp2_with (first | (go_at_call 89; refine (rWhole_any _ _).mono ?_; rintro e w' ⟨rfl, rfl⟩; (try rw [hbW])) | (go_at_call 66; refine (rKind_any _ _).mono ?_; rintro e w' ⟨rfl, rfl⟩; (try rw [hbK])))
          go_ret
          exact ⟨ret_bool (by simp), (two_blocks w _ _).1⟩
theorem rfit_6 (c : GCode) (t a n : Int) : fitsB c ⟨6, t, a, n⟩ = (wholeB t && (a == 0) && (n == 0)) := by
  have e : fitsB c ⟨6, t, a, n⟩ = (chk c ⟨6, t, a, n⟩ (shapeStr 6)[0] t && chk c ⟨6, t, a, n⟩ (shapeStr 6)[1] a && chk c ⟨6, t, a, n⟩ (shapeStr 6)[2] n) := rfl
  rw [e]
  simp [chk, shapeStr, below_one]
  try (simp only [Bool.and_assoc])
set_option maxHeartbeats 2000000 in
set_option maxRecDepth 100000 in
theorem rIns_6 (c : GCode) (A1 A2 A3 : Option Addr) (c1 c2 c3 : Nat) (t a n : Int) (ht : 0 ≤ t ∧ t ≤ 255) (hn : (c.vars.length : Int) ≤ 9223372036854775807 ∧ (c.blocks.length : Int) ≤ 9223372036854775807 ∧ (c.ins.length : Int) ≤ 9223372036854775807) (w : World) :
    Calls Try.prog 67 #[.agg #[.string c.name, .slice A1 c.vars.length c1, .slice A2 c.blocks.length c2, .slice A3 c.ins.length c3], .agg #[.int .u8 6, .int .u8 t, .int .i64 a, .int .i64 n]] w fun e w' => e = .returned (.bool (fitsB c ⟨6, t, a, n⟩)) ∧ Below w.heap.size w w' := by
  obtain ⟨n1, n2, n3⟩ := hn
  obtain ⟨ht0, ht1⟩ := ht
  rw [rfit_6]
  obtain ⟨lo, hlo⟩ : ∃ lo, (rangeOf t).1 = lo := ⟨_, rfl⟩
  obtain ⟨hi, hhi⟩ : ∃ hi, (rangeOf t).2 = hi := ⟨_, rfl⟩
  obtain ⟨bW, hbW⟩ : ∃ b, wholeB t = b := ⟨_, rfl⟩
  obtain ⟨bA, hbA⟩ : ∃ b, (a == 0) = b := ⟨_, rfl⟩
  obtain ⟨bN, hbN⟩ : ∃ b, (n == 0) = b := ⟨_, rfl⟩
  rw [hbW, hbA, hbN]
  have HbW := Fact.mk hbW
  have HbA := Fact.mk hbA
  have HbN := Fact.mk hbN
  clear hbW hbA hbN
  go_enter Try.func67, Try.ntmps67
  go_wp2_with fail
  refine (rRange_any _ _).mono ?_
  rintro e w' ⟨rfl, rfl⟩
  rw [hlo, hhi]
  go_wp2_with fail
  refine (rKind_any _ _).mono ?_
  rintro e w' ⟨rfl, rfl⟩
  go_upto_region 3 with (fail)
  go_cut [8] from 22 to 32 (fun s wx => s = .bool (belowB c.vars.length a) ∧ wx = rfW w c A1 A2 A3 c1 c2 c3 6 t a n)
  case first =>
    by_cases hp : 0 ≤ a
    · have e1 : decide (0 ≤ a) = true := decide_eq_true hp
      go_wp2_with fail
      go_meet
      exact ⟨by unfold belowB; rw [e1]; rfl, rfl⟩
    · have e1 : decide (0 ≤ a) = false := decide_eq_false hp
      clear hp
      go_wp2_with fail
      go_meet
      exact ⟨by unfold belowB; rw [e1]; rfl, rfl⟩
  case rest =>
    obtain ⟨rfl, rfl⟩ := hcut
    go_upto_region 4 with (fail)
    go_cut [9] from 33 to 43 (fun s wx => s = .bool (belowB c.blocks.length a) ∧ wx = rfW w c A1 A2 A3 c1 c2 c3 6 t a n)
    case first =>
      by_cases hp : 0 ≤ a
      · have e1 : decide (0 ≤ a) = true := decide_eq_true hp
        go_wp2_with fail
        go_meet
        exact ⟨by unfold belowB; rw [e1]; rfl, rfl⟩
      · have e1 : decide (0 ≤ a) = false := decide_eq_false hp
        clear hp
        go_wp2_with fail
        go_meet
        exact ⟨by unfold belowB; rw [e1]; rfl, rfl⟩
    case rest =>
      obtain ⟨rfl, rfl⟩ := hcut
      have hbW := HbW.out
      have hbA := HbA.out
      have hbN := HbN.out
      cases bW with
      | false =>
        go_wp2_with (first | (go_at_call 89; refine (rWhole_any _ _).mono ?_; rintro e w' ⟨rfl, rfl⟩; (try rw [hbW])) | (go_at_call 66; refine (rKind_any _ _).mono ?_; rintro e w' ⟨rfl, rfl⟩; (try rw [hbK])))
        go_ret
        exact ⟨ret_bool (by simp), (two_blocks w _ _).1⟩
      | true =>
        cases bA with
        | false =>
          go_wp2_with (first | (go_at_call 89; refine (rWhole_any _ _).mono ?_; rintro e w' ⟨rfl, rfl⟩; (try rw [hbW])) | (go_at_call 66; refine (rKind_any _ _).mono ?_; rintro e w' ⟨rfl, rfl⟩; (try rw [hbK])))
          go_ret
          exact ⟨ret_bool (by simp), (two_blocks w _ _).1⟩
        | true =>
          go_wp2_with (first | (go_at_call 89; refine (rWhole_any _ _).mono ?_; rintro e w' ⟨rfl, rfl⟩; (try rw [hbW])) | (go_at_call 66; refine (rKind_any _ _).mono ?_; rintro e w' ⟨rfl, rfl⟩; (try rw [hbK])))
          go_ret
          exact ⟨ret_bool (by simp), (two_blocks w _ _).1⟩
theorem rfit_7 (c : GCode) (t a n : Int) : fitsB c ⟨7, t, a, n⟩ = (wholeB t && (a == 0) && (n == 0)) := by
  have e : fitsB c ⟨7, t, a, n⟩ = (chk c ⟨7, t, a, n⟩ (shapeStr 7)[0] t && chk c ⟨7, t, a, n⟩ (shapeStr 7)[1] a && chk c ⟨7, t, a, n⟩ (shapeStr 7)[2] n) := rfl
  rw [e]
  simp [chk, shapeStr, below_one]
  try (simp only [Bool.and_assoc])
set_option maxHeartbeats 2000000 in
set_option maxRecDepth 100000 in
theorem rIns_7 (c : GCode) (A1 A2 A3 : Option Addr) (c1 c2 c3 : Nat) (t a n : Int) (ht : 0 ≤ t ∧ t ≤ 255) (hn : (c.vars.length : Int) ≤ 9223372036854775807 ∧ (c.blocks.length : Int) ≤ 9223372036854775807 ∧ (c.ins.length : Int) ≤ 9223372036854775807) (w : World) :
    Calls Try.prog 67 #[.agg #[.string c.name, .slice A1 c.vars.length c1, .slice A2 c.blocks.length c2, .slice A3 c.ins.length c3], .agg #[.int .u8 7, .int .u8 t, .int .i64 a, .int .i64 n]] w fun e w' => e = .returned (.bool (fitsB c ⟨7, t, a, n⟩)) ∧ Below w.heap.size w w' := by
  obtain ⟨n1, n2, n3⟩ := hn
  obtain ⟨ht0, ht1⟩ := ht
  rw [rfit_7]
  obtain ⟨lo, hlo⟩ : ∃ lo, (rangeOf t).1 = lo := ⟨_, rfl⟩
  obtain ⟨hi, hhi⟩ : ∃ hi, (rangeOf t).2 = hi := ⟨_, rfl⟩
  obtain ⟨bW, hbW⟩ : ∃ b, wholeB t = b := ⟨_, rfl⟩
  obtain ⟨bA, hbA⟩ : ∃ b, (a == 0) = b := ⟨_, rfl⟩
  obtain ⟨bN, hbN⟩ : ∃ b, (n == 0) = b := ⟨_, rfl⟩
  rw [hbW, hbA, hbN]
  have HbW := Fact.mk hbW
  have HbA := Fact.mk hbA
  have HbN := Fact.mk hbN
  clear hbW hbA hbN
  go_enter Try.func67, Try.ntmps67
  go_wp2_with fail
  refine (rRange_any _ _).mono ?_
  rintro e w' ⟨rfl, rfl⟩
  rw [hlo, hhi]
  go_wp2_with fail
  refine (rKind_any _ _).mono ?_
  rintro e w' ⟨rfl, rfl⟩
  go_upto_region 3 with (fail)
  go_cut [8] from 22 to 32 (fun s wx => s = .bool (belowB c.vars.length a) ∧ wx = rfW w c A1 A2 A3 c1 c2 c3 7 t a n)
  case first =>
    by_cases hp : 0 ≤ a
    · have e1 : decide (0 ≤ a) = true := decide_eq_true hp
      go_wp2_with fail
      go_meet
      exact ⟨by unfold belowB; rw [e1]; rfl, rfl⟩
    · have e1 : decide (0 ≤ a) = false := decide_eq_false hp
      clear hp
      go_wp2_with fail
      go_meet
      exact ⟨by unfold belowB; rw [e1]; rfl, rfl⟩
  case rest =>
    obtain ⟨rfl, rfl⟩ := hcut
    go_upto_region 4 with (fail)
    go_cut [9] from 33 to 43 (fun s wx => s = .bool (belowB c.blocks.length a) ∧ wx = rfW w c A1 A2 A3 c1 c2 c3 7 t a n)
    case first =>
      by_cases hp : 0 ≤ a
      · have e1 : decide (0 ≤ a) = true := decide_eq_true hp
        go_wp2_with fail
        go_meet
        exact ⟨by unfold belowB; rw [e1]; rfl, rfl⟩
      · have e1 : decide (0 ≤ a) = false := decide_eq_false hp
        clear hp
        go_wp2_with fail
        go_meet
        exact ⟨by unfold belowB; rw [e1]; rfl, rfl⟩
    case rest =>
      obtain ⟨rfl, rfl⟩ := hcut
      have hbW := HbW.out
      have hbA := HbA.out
      have hbN := HbN.out
      cases bW with
      | false =>
        go_wp2_with (first | (go_at_call 89; refine (rWhole_any _ _).mono ?_; rintro e w' ⟨rfl, rfl⟩; (try rw [hbW])) | (go_at_call 66; refine (rKind_any _ _).mono ?_; rintro e w' ⟨rfl, rfl⟩; (try rw [hbK])))
        go_ret
        exact ⟨ret_bool (by simp), (two_blocks w _ _).1⟩
      | true =>
        cases bA with
        | false =>
          go_wp2_with (first | (go_at_call 89; refine (rWhole_any _ _).mono ?_; rintro e w' ⟨rfl, rfl⟩; (try rw [hbW])) | (go_at_call 66; refine (rKind_any _ _).mono ?_; rintro e w' ⟨rfl, rfl⟩; (try rw [hbK])))
          go_ret
          exact ⟨ret_bool (by simp), (two_blocks w _ _).1⟩
        | true =>
          go_wp2_with (first | (go_at_call 89; refine (rWhole_any _ _).mono ?_; rintro e w' ⟨rfl, rfl⟩; (try rw [hbW])) | (go_at_call 66; refine (rKind_any _ _).mono ?_; rintro e w' ⟨rfl, rfl⟩; (try rw [hbK])))
          go_ret
          exact ⟨ret_bool (by simp), (two_blocks w _ _).1⟩
theorem rfit_8 (c : GCode) (t a n : Int) : fitsB c ⟨8, t, a, n⟩ = (wholeB t && (a == 0) && (n == 0)) := by
  have e : fitsB c ⟨8, t, a, n⟩ = (chk c ⟨8, t, a, n⟩ (shapeStr 8)[0] t && chk c ⟨8, t, a, n⟩ (shapeStr 8)[1] a && chk c ⟨8, t, a, n⟩ (shapeStr 8)[2] n) := rfl
  rw [e]
  simp [chk, shapeStr, below_one]
  try (simp only [Bool.and_assoc])
set_option maxHeartbeats 2000000 in
set_option maxRecDepth 100000 in
theorem rIns_8 (c : GCode) (A1 A2 A3 : Option Addr) (c1 c2 c3 : Nat) (t a n : Int) (ht : 0 ≤ t ∧ t ≤ 255) (hn : (c.vars.length : Int) ≤ 9223372036854775807 ∧ (c.blocks.length : Int) ≤ 9223372036854775807 ∧ (c.ins.length : Int) ≤ 9223372036854775807) (w : World) :
    Calls Try.prog 67 #[.agg #[.string c.name, .slice A1 c.vars.length c1, .slice A2 c.blocks.length c2, .slice A3 c.ins.length c3], .agg #[.int .u8 8, .int .u8 t, .int .i64 a, .int .i64 n]] w fun e w' => e = .returned (.bool (fitsB c ⟨8, t, a, n⟩)) ∧ Below w.heap.size w w' := by
  obtain ⟨n1, n2, n3⟩ := hn
  obtain ⟨ht0, ht1⟩ := ht
  rw [rfit_8]
  obtain ⟨lo, hlo⟩ : ∃ lo, (rangeOf t).1 = lo := ⟨_, rfl⟩
  obtain ⟨hi, hhi⟩ : ∃ hi, (rangeOf t).2 = hi := ⟨_, rfl⟩
  obtain ⟨bW, hbW⟩ : ∃ b, wholeB t = b := ⟨_, rfl⟩
  obtain ⟨bA, hbA⟩ : ∃ b, (a == 0) = b := ⟨_, rfl⟩
  obtain ⟨bN, hbN⟩ : ∃ b, (n == 0) = b := ⟨_, rfl⟩
  rw [hbW, hbA, hbN]
  have HbW := Fact.mk hbW
  have HbA := Fact.mk hbA
  have HbN := Fact.mk hbN
  clear hbW hbA hbN
  go_enter Try.func67, Try.ntmps67
  go_wp2_with fail
  refine (rRange_any _ _).mono ?_
  rintro e w' ⟨rfl, rfl⟩
  rw [hlo, hhi]
  go_wp2_with fail
  refine (rKind_any _ _).mono ?_
  rintro e w' ⟨rfl, rfl⟩
  go_upto_region 3 with (fail)
  go_cut [8] from 22 to 32 (fun s wx => s = .bool (belowB c.vars.length a) ∧ wx = rfW w c A1 A2 A3 c1 c2 c3 8 t a n)
  case first =>
    by_cases hp : 0 ≤ a
    · have e1 : decide (0 ≤ a) = true := decide_eq_true hp
      go_wp2_with fail
      go_meet
      exact ⟨by unfold belowB; rw [e1]; rfl, rfl⟩
    · have e1 : decide (0 ≤ a) = false := decide_eq_false hp
      clear hp
      go_wp2_with fail
      go_meet
      exact ⟨by unfold belowB; rw [e1]; rfl, rfl⟩
  case rest =>
    obtain ⟨rfl, rfl⟩ := hcut
    go_upto_region 4 with (fail)
    go_cut [9] from 33 to 43 (fun s wx => s = .bool (belowB c.blocks.length a) ∧ wx = rfW w c A1 A2 A3 c1 c2 c3 8 t a n)
    case first =>
      by_cases hp : 0 ≤ a
      · have e1 : decide (0 ≤ a) = true := decide_eq_true hp
        go_wp2_with fail
        go_meet
        exact ⟨by unfold belowB; rw [e1]; rfl, rfl⟩
      · have e1 : decide (0 ≤ a) = false := decide_eq_false hp
        clear hp
        go_wp2_with fail
        go_meet
        exact ⟨by unfold belowB; rw [e1]; rfl, rfl⟩
    case rest =>
      obtain ⟨rfl, rfl⟩ := hcut
      have hbW := HbW.out
      have hbA := HbA.out
      have hbN := HbN.out
      cases bW with
      | false =>
        go_wp2_with (first | (go_at_call 89; refine (rWhole_any _ _).mono ?_; rintro e w' ⟨rfl, rfl⟩; (try rw [hbW])) | (go_at_call 66; refine (rKind_any _ _).mono ?_; rintro e w' ⟨rfl, rfl⟩; (try rw [hbK])))
        go_ret
        exact ⟨ret_bool (by simp), (two_blocks w _ _).1⟩
      | true =>
        cases bA with
        | false =>
          go_wp2_with (first | (go_at_call 89; refine (rWhole_any _ _).mono ?_; rintro e w' ⟨rfl, rfl⟩; (try rw [hbW])) | (go_at_call 66; refine (rKind_any _ _).mono ?_; rintro e w' ⟨rfl, rfl⟩; (try rw [hbK])))
          go_ret
          exact ⟨ret_bool (by simp), (two_blocks w _ _).1⟩
        | true =>
          go_wp2_with (first | (go_at_call 89; refine (rWhole_any _ _).mono ?_; rintro e w' ⟨rfl, rfl⟩; (try rw [hbW])) | (go_at_call 66; refine (rKind_any _ _).mono ?_; rintro e w' ⟨rfl, rfl⟩; (try rw [hbK])))
          go_ret
          exact ⟨ret_bool (by simp), (two_blocks w _ _).1⟩
theorem rfit_9 (c : GCode) (t a n : Int) : fitsB c ⟨9, t, a, n⟩ = (typedB t && (a == 0) && (n == 0)) := by
  have e : fitsB c ⟨9, t, a, n⟩ = (chk c ⟨9, t, a, n⟩ (shapeStr 9)[0] t && chk c ⟨9, t, a, n⟩ (shapeStr 9)[1] a && chk c ⟨9, t, a, n⟩ (shapeStr 9)[2] n) := rfl
  rw [e]
  simp [chk, shapeStr, below_one]
  try (simp only [Bool.and_assoc])
set_option maxHeartbeats 2000000 in
set_option maxRecDepth 100000 in
theorem rIns_9 (c : GCode) (A1 A2 A3 : Option Addr) (c1 c2 c3 : Nat) (t a n : Int) (ht : 0 ≤ t ∧ t ≤ 255) (hn : (c.vars.length : Int) ≤ 9223372036854775807 ∧ (c.blocks.length : Int) ≤ 9223372036854775807 ∧ (c.ins.length : Int) ≤ 9223372036854775807) (w : World) :
    Calls Try.prog 67 #[.agg #[.string c.name, .slice A1 c.vars.length c1, .slice A2 c.blocks.length c2, .slice A3 c.ins.length c3], .agg #[.int .u8 9, .int .u8 t, .int .i64 a, .int .i64 n]] w fun e w' => e = .returned (.bool (fitsB c ⟨9, t, a, n⟩)) ∧ Below w.heap.size w w' := by
  obtain ⟨n1, n2, n3⟩ := hn
  obtain ⟨ht0, ht1⟩ := ht
  rw [rfit_9]
  obtain ⟨lo, hlo⟩ : ∃ lo, (rangeOf t).1 = lo := ⟨_, rfl⟩
  obtain ⟨hi, hhi⟩ : ∃ hi, (rangeOf t).2 = hi := ⟨_, rfl⟩
  obtain ⟨bT, hbT⟩ : ∃ b, typedB t = b := ⟨_, rfl⟩
  obtain ⟨bA, hbA⟩ : ∃ b, (a == 0) = b := ⟨_, rfl⟩
  obtain ⟨bN, hbN⟩ : ∃ b, (n == 0) = b := ⟨_, rfl⟩
  rw [hbT, hbA, hbN]
  have HbT := Fact.mk hbT
  have HbA := Fact.mk hbA
  have HbN := Fact.mk hbN
  clear hbT hbA hbN
  go_enter Try.func67, Try.ntmps67
  go_wp2_with fail
  refine (rRange_any _ _).mono ?_
  rintro e w' ⟨rfl, rfl⟩
  rw [hlo, hhi]
  go_wp2_with fail
  refine (rKind_any _ _).mono ?_
  rintro e w' ⟨rfl, rfl⟩
  go_upto_region 3 with (fail)
  go_cut [8] from 22 to 32 (fun s wx => s = .bool (belowB c.vars.length a) ∧ wx = rfW w c A1 A2 A3 c1 c2 c3 9 t a n)
  case first =>
    by_cases hp : 0 ≤ a
    · have e1 : decide (0 ≤ a) = true := decide_eq_true hp
      go_wp2_with fail
      go_meet
      exact ⟨by unfold belowB; rw [e1]; rfl, rfl⟩
    · have e1 : decide (0 ≤ a) = false := decide_eq_false hp
      clear hp
      go_wp2_with fail
      go_meet
      exact ⟨by unfold belowB; rw [e1]; rfl, rfl⟩
  case rest =>
    obtain ⟨rfl, rfl⟩ := hcut
    go_upto_region 4 with (fail)
    go_cut [9] from 33 to 43 (fun s wx => s = .bool (belowB c.blocks.length a) ∧ wx = rfW w c A1 A2 A3 c1 c2 c3 9 t a n)
    case first =>
      by_cases hp : 0 ≤ a
      · have e1 : decide (0 ≤ a) = true := decide_eq_true hp
        go_wp2_with fail
        go_meet
        exact ⟨by unfold belowB; rw [e1]; rfl, rfl⟩
      · have e1 : decide (0 ≤ a) = false := decide_eq_false hp
        clear hp
        go_wp2_with fail
        go_meet
        exact ⟨by unfold belowB; rw [e1]; rfl, rfl⟩
    case rest =>
      obtain ⟨rfl, rfl⟩ := hcut
      have hbT := HbT.out
      have hbA := HbA.out
      have hbN := HbN.out
      cases bT with
      | false =>
        go_wp2_with (first | (go_at_call 89; refine (rWhole_any _ _).mono ?_; rintro e w' ⟨rfl, rfl⟩; (try rw [hbW])) | (go_at_call 66; refine (rKind_any _ _).mono ?_; rintro e w' ⟨rfl, rfl⟩; (try rw [hbK])))
        go_ret
        exact ⟨ret_bool (by simp), (two_blocks w _ _).1⟩
      | true =>
        cases bA with
        | false =>
          go_wp2_with (first | (go_at_call 89; refine (rWhole_any _ _).mono ?_; rintro e w' ⟨rfl, rfl⟩; (try rw [hbW])) | (go_at_call 66; refine (rKind_any _ _).mono ?_; rintro e w' ⟨rfl, rfl⟩; (try rw [hbK])))
          go_ret
          exact ⟨ret_bool (by simp), (two_blocks w _ _).1⟩
        | true =>
          go_wp2_with (first | (go_at_call 89; refine (rWhole_any _ _).mono ?_; rintro e w' ⟨rfl, rfl⟩; (try rw [hbW])) | (go_at_call 66; refine (rKind_any _ _).mono ?_; rintro e w' ⟨rfl, rfl⟩; (try rw [hbK])))
          go_ret
          exact ⟨ret_bool (by simp), (two_blocks w _ _).1⟩
theorem rfit_10 (c : GCode) (t a n : Int) : fitsB c ⟨10, t, a, n⟩ = (typedB t && (a == 0) && (n == 0)) := by
  have e : fitsB c ⟨10, t, a, n⟩ = (chk c ⟨10, t, a, n⟩ (shapeStr 10)[0] t && chk c ⟨10, t, a, n⟩ (shapeStr 10)[1] a && chk c ⟨10, t, a, n⟩ (shapeStr 10)[2] n) := rfl
  rw [e]
  simp [chk, shapeStr, below_one]
  try (simp only [Bool.and_assoc])
set_option maxHeartbeats 2000000 in
set_option maxRecDepth 100000 in
theorem rIns_10 (c : GCode) (A1 A2 A3 : Option Addr) (c1 c2 c3 : Nat) (t a n : Int) (ht : 0 ≤ t ∧ t ≤ 255) (hn : (c.vars.length : Int) ≤ 9223372036854775807 ∧ (c.blocks.length : Int) ≤ 9223372036854775807 ∧ (c.ins.length : Int) ≤ 9223372036854775807) (w : World) :
    Calls Try.prog 67 #[.agg #[.string c.name, .slice A1 c.vars.length c1, .slice A2 c.blocks.length c2, .slice A3 c.ins.length c3], .agg #[.int .u8 10, .int .u8 t, .int .i64 a, .int .i64 n]] w fun e w' => e = .returned (.bool (fitsB c ⟨10, t, a, n⟩)) ∧ Below w.heap.size w w' := by
  obtain ⟨n1, n2, n3⟩ := hn
  obtain ⟨ht0, ht1⟩ := ht
  rw [rfit_10]
  obtain ⟨lo, hlo⟩ : ∃ lo, (rangeOf t).1 = lo := ⟨_, rfl⟩
  obtain ⟨hi, hhi⟩ : ∃ hi, (rangeOf t).2 = hi := ⟨_, rfl⟩
  obtain ⟨bT, hbT⟩ : ∃ b, typedB t = b := ⟨_, rfl⟩
  obtain ⟨bA, hbA⟩ : ∃ b, (a == 0) = b := ⟨_, rfl⟩
  obtain ⟨bN, hbN⟩ : ∃ b, (n == 0) = b := ⟨_, rfl⟩
  rw [hbT, hbA, hbN]
  have HbT := Fact.mk hbT
  have HbA := Fact.mk hbA
  have HbN := Fact.mk hbN
  clear hbT hbA hbN
  go_enter Try.func67, Try.ntmps67
  go_wp2_with fail
  refine (rRange_any _ _).mono ?_
  rintro e w' ⟨rfl, rfl⟩
  rw [hlo, hhi]
  go_wp2_with fail
  refine (rKind_any _ _).mono ?_
  rintro e w' ⟨rfl, rfl⟩
  go_upto_region 3 with (fail)
  go_cut [8] from 22 to 32 (fun s wx => s = .bool (belowB c.vars.length a) ∧ wx = rfW w c A1 A2 A3 c1 c2 c3 10 t a n)
  case first =>
    by_cases hp : 0 ≤ a
    · have e1 : decide (0 ≤ a) = true := decide_eq_true hp
      go_wp2_with fail
      go_meet
      exact ⟨by unfold belowB; rw [e1]; rfl, rfl⟩
    · have e1 : decide (0 ≤ a) = false := decide_eq_false hp
      clear hp
      go_wp2_with fail
      go_meet
      exact ⟨by unfold belowB; rw [e1]; rfl, rfl⟩
  case rest =>
    obtain ⟨rfl, rfl⟩ := hcut
    go_upto_region 4 with (fail)
    go_cut [9] from 33 to 43 (fun s wx => s = .bool (belowB c.blocks.length a) ∧ wx = rfW w c A1 A2 A3 c1 c2 c3 10 t a n)
    case first =>
      by_cases hp : 0 ≤ a
      · have e1 : decide (0 ≤ a) = true := decide_eq_true hp
        go_wp2_with fail
        go_meet
        exact ⟨by unfold belowB; rw [e1]; rfl, rfl⟩
      · have e1 : decide (0 ≤ a) = false := decide_eq_false hp
        clear hp
        go_wp2_with fail
        go_meet
        exact ⟨by unfold belowB; rw [e1]; rfl, rfl⟩
    case rest =>
      obtain ⟨rfl, rfl⟩ := hcut
      have hbT := HbT.out
      have hbA := HbA.out
      have hbN := HbN.out
      cases bT with
      | false =>
        go_wp2_with (first | (go_at_call 89; refine (rWhole_any _ _).mono ?_; rintro e w' ⟨rfl, rfl⟩; (try rw [hbW])) | (go_at_call 66; refine (rKind_any _ _).mono ?_; rintro e w' ⟨rfl, rfl⟩; (try rw [hbK])))
        go_ret
        exact ⟨ret_bool (by simp), (two_blocks w _ _).1⟩
      | true =>
        cases bA with
        | false =>
          go_wp2_with (first | (go_at_call 89; refine (rWhole_any _ _).mono ?_; rintro e w' ⟨rfl, rfl⟩; (try rw [hbW])) | (go_at_call 66; refine (rKind_any _ _).mono ?_; rintro e w' ⟨rfl, rfl⟩; (try rw [hbK])))
          go_ret
          exact ⟨ret_bool (by simp), (two_blocks w _ _).1⟩
        | true =>
          go_wp2_with (first | (go_at_call 89; refine (rWhole_any _ _).mono ?_; rintro e w' ⟨rfl, rfl⟩; (try rw [hbW])) | (go_at_call 66; refine (rKind_any _ _).mono ?_; rintro e w' ⟨rfl, rfl⟩; (try rw [hbK])))
          go_ret
          exact ⟨ret_bool (by simp), (two_blocks w _ _).1⟩
theorem rfit_11 (c : GCode) (t a n : Int) : fitsB c ⟨11, t, a, n⟩ = (typedB t && (a == 0) && (n == 0)) := by
  have e : fitsB c ⟨11, t, a, n⟩ = (chk c ⟨11, t, a, n⟩ (shapeStr 11)[0] t && chk c ⟨11, t, a, n⟩ (shapeStr 11)[1] a && chk c ⟨11, t, a, n⟩ (shapeStr 11)[2] n) := rfl
  rw [e]
  simp [chk, shapeStr, below_one]
  try (simp only [Bool.and_assoc])
set_option maxHeartbeats 2000000 in
set_option maxRecDepth 100000 in
theorem rIns_11 (c : GCode) (A1 A2 A3 : Option Addr) (c1 c2 c3 : Nat) (t a n : Int) (ht : 0 ≤ t ∧ t ≤ 255) (hn : (c.vars.length : Int) ≤ 9223372036854775807 ∧ (c.blocks.length : Int) ≤ 9223372036854775807 ∧ (c.ins.length : Int) ≤ 9223372036854775807) (w : World) :
    Calls Try.prog 67 #[.agg #[.string c.name, .slice A1 c.vars.length c1, .slice A2 c.blocks.length c2, .slice A3 c.ins.length c3], .agg #[.int .u8 11, .int .u8 t, .int .i64 a, .int .i64 n]] w fun e w' => e = .returned (.bool (fitsB c ⟨11, t, a, n⟩)) ∧ Below w.heap.size w w' := by
  obtain ⟨n1, n2, n3⟩ := hn
  obtain ⟨ht0, ht1⟩ := ht
  rw [rfit_11]
  obtain ⟨lo, hlo⟩ : ∃ lo, (rangeOf t).1 = lo := ⟨_, rfl⟩
  obtain ⟨hi, hhi⟩ : ∃ hi, (rangeOf t).2 = hi := ⟨_, rfl⟩
  obtain ⟨bT, hbT⟩ : ∃ b, typedB t = b := ⟨_, rfl⟩
  obtain ⟨bA, hbA⟩ : ∃ b, (a == 0) = b := ⟨_, rfl⟩
  obtain ⟨bN, hbN⟩ : ∃ b, (n == 0) = b := ⟨_, rfl⟩
  rw [hbT, hbA, hbN]
  have HbT := Fact.mk hbT
  have HbA := Fact.mk hbA
  have HbN := Fact.mk hbN
  clear hbT hbA hbN
  go_enter Try.func67, Try.ntmps67
  go_wp2_with fail
  refine (rRange_any _ _).mono ?_
  rintro e w' ⟨rfl, rfl⟩
  rw [hlo, hhi]
  go_wp2_with fail
  refine (rKind_any _ _).mono ?_
  rintro e w' ⟨rfl, rfl⟩
  go_upto_region 3 with (fail)
  go_cut [8] from 22 to 32 (fun s wx => s = .bool (belowB c.vars.length a) ∧ wx = rfW w c A1 A2 A3 c1 c2 c3 11 t a n)
  case first =>
    by_cases hp : 0 ≤ a
    · have e1 : decide (0 ≤ a) = true := decide_eq_true hp
      go_wp2_with fail
      go_meet
      exact ⟨by unfold belowB; rw [e1]; rfl, rfl⟩
    · have e1 : decide (0 ≤ a) = false := decide_eq_false hp
      clear hp
      go_wp2_with fail
      go_meet
      exact ⟨by unfold belowB; rw [e1]; rfl, rfl⟩
  case rest =>
    obtain ⟨rfl, rfl⟩ := hcut
    go_upto_region 4 with (fail)
    go_cut [9] from 33 to 43 (fun s wx => s = .bool (belowB c.blocks.length a) ∧ wx = rfW w c A1 A2 A3 c1 c2 c3 11 t a n)
    case first =>
      by_cases hp : 0 ≤ a
      · have e1 : decide (0 ≤ a) = true := decide_eq_true hp
        go_wp2_with fail
        go_meet
        exact ⟨by unfold belowB; rw [e1]; rfl, rfl⟩
      · have e1 : decide (0 ≤ a) = false := decide_eq_false hp
        clear hp
        go_wp2_with fail
        go_meet
        exact ⟨by unfold belowB; rw [e1]; rfl, rfl⟩
    case rest =>
      obtain ⟨rfl, rfl⟩ := hcut
      have hbT := HbT.out
      have hbA := HbA.out
      have hbN := HbN.out
      cases bT with
      | false =>
        go_wp2_with (first | (go_at_call 89; refine (rWhole_any _ _).mono ?_; rintro e w' ⟨rfl, rfl⟩; (try rw [hbW])) | (go_at_call 66; refine (rKind_any _ _).mono ?_; rintro e w' ⟨rfl, rfl⟩; (try rw [hbK])))
        go_ret
        exact ⟨ret_bool (by simp), (two_blocks w _ _).1⟩
      | true =>
        cases bA with
        | false =>
          go_wp2_with (first | (go_at_call 89; refine (rWhole_any _ _).mono ?_; rintro e w' ⟨rfl, rfl⟩; (try rw [hbW])) | (go_at_call 66; refine (rKind_any _ _).mono ?_; rintro e w' ⟨rfl, rfl⟩; (try rw [hbK])))
          go_ret
          exact ⟨ret_bool (by simp), (two_blocks w _ _).1⟩
        | true =>
          go_wp2_with (first | (go_at_call 89; refine (rWhole_any _ _).mono ?_; rintro e w' ⟨rfl, rfl⟩; (try rw [hbW])) | (go_at_call 66; refine (rKind_any _ _).mono ?_; rintro e w' ⟨rfl, rfl⟩; (try rw [hbK])))
          go_ret
          exact ⟨ret_bool (by simp), (two_blocks w _ _).1⟩
theorem rfit_12 (c : GCode) (t a n : Int) : fitsB c ⟨12, t, a, n⟩ = (typedB t && (a == 0) && (n == 0)) := by
  have e : fitsB c ⟨12, t, a, n⟩ = (chk c ⟨12, t, a, n⟩ (shapeStr 12)[0] t && chk c ⟨12, t, a, n⟩ (shapeStr 12)[1] a && chk c ⟨12, t, a, n⟩ (shapeStr 12)[2] n) := rfl
  rw [e]
  simp [chk, shapeStr, below_one]
  try (simp only [Bool.and_assoc])
set_option maxHeartbeats 2000000 in
set_option maxRecDepth 100000 in
theorem rIns_12 (c : GCode) (A1 A2 A3 : Option Addr) (c1 c2 c3 : Nat) (t a n : Int) (ht : 0 ≤ t ∧ t ≤ 255) (hn : (c.vars.length : Int) ≤ 9223372036854775807 ∧ (c.blocks.length : Int) ≤ 9223372036854775807 ∧ (c.ins.length : Int) ≤ 9223372036854775807) (w : World) :
    Calls Try.prog 67 #[.agg #[.string c.name, .slice A1 c.vars.length c1, .slice A2 c.blocks.length c2, .slice A3 c.ins.length c3], .agg #[.int .u8 12, .int .u8 t, .int .i64 a, .int .i64 n]] w fun e w' => e = .returned (.bool (fitsB c ⟨12, t, a, n⟩)) ∧ Below w.heap.size w w' := by
  obtain ⟨n1, n2, n3⟩ := hn
  obtain ⟨ht0, ht1⟩ := ht
  rw [rfit_12]
  obtain ⟨lo, hlo⟩ : ∃ lo, (rangeOf t).1 = lo := ⟨_, rfl⟩
  obtain ⟨hi, hhi⟩ : ∃ hi, (rangeOf t).2 = hi := ⟨_, rfl⟩
  obtain ⟨bT, hbT⟩ : ∃ b, typedB t = b := ⟨_, rfl⟩
  obtain ⟨bA, hbA⟩ : ∃ b, (a == 0) = b := ⟨_, rfl⟩
  obtain ⟨bN, hbN⟩ : ∃ b, (n == 0) = b := ⟨_, rfl⟩
  rw [hbT, hbA, hbN]
  have HbT := Fact.mk hbT
  have HbA := Fact.mk hbA
  have HbN := Fact.mk hbN
  clear hbT hbA hbN
  go_enter Try.func67, Try.ntmps67
  go_wp2_with fail
  refine (rRange_any _ _).mono ?_
  rintro e w' ⟨rfl, rfl⟩
  rw [hlo, hhi]
  go_wp2_with fail
  refine (rKind_any _ _).mono ?_
  rintro e w' ⟨rfl, rfl⟩
  go_upto_region 3 with (fail)
  go_cut [8] from 22 to 32 (fun s wx => s = .bool (belowB c.vars.length a) ∧ wx = rfW w c A1 A2 A3 c1 c2 c3 12 t a n)
  case first =>
    by_cases hp : 0 ≤ a
    · have e1 : decide (0 ≤ a) = true := decide_eq_true hp
      go_wp2_with fail
      go_meet
      exact ⟨by unfold belowB; rw [e1]; rfl, rfl⟩
    · have e1 : decide (0 ≤ a) = false := decide_eq_false hp
      clear hp
      go_wp2_with fail
      go_meet
      exact ⟨by unfold belowB; rw [e1]; rfl, rfl⟩
  case rest =>
    obtain ⟨rfl, rfl⟩ := hcut
    go_upto_region 4 with (fail)
    go_cut [9] from 33 to 43 (fun s wx => s = .bool (belowB c.blocks.length a) ∧ wx = rfW w c A1 A2 A3 c1 c2 c3 12 t a n)
    case first =>
      by_cases hp : 0 ≤ a
      · have e1 : decide (0 ≤ a) = true := decide_eq_true hp
        go_wp2_with fail
        go_meet
        exact ⟨by unfold belowB; rw [e1]; rfl, rfl⟩
      · have e1 : decide (0 ≤ a) = false := decide_eq_false hp
        clear hp
        go_wp2_with fail
        go_meet
        exact ⟨by unfold belowB; rw [e1]; rfl, rfl⟩
    case rest =>
      obtain ⟨rfl, rfl⟩ := hcut
      have hbT := HbT.out
      have hbA := HbA.out
      have hbN := HbN.out
      cases bT with
      | false =>
        go_wp2_with (first | (go_at_call 89; refine (rWhole_any _ _).mono ?_; rintro e w' ⟨rfl, rfl⟩; (try rw [hbW])) | (go_at_call 66; refine (rKind_any _ _).mono ?_; rintro e w' ⟨rfl, rfl⟩; (try rw [hbK])))
        go_ret
        exact ⟨ret_bool (by simp), (two_blocks w _ _).1⟩
      | true =>
        cases bA with
        | false =>
          go_wp2_with (first | (go_at_call 89; refine (rWhole_any _ _).mono ?_; rintro e w' ⟨rfl, rfl⟩; (try rw [hbW])) | (go_at_call 66; refine (rKind_any _ _).mono ?_; rintro e w' ⟨rfl, rfl⟩; (try rw [hbK])))
          go_ret
          exact ⟨ret_bool (by simp), (two_blocks w _ _).1⟩
        | true =>
          go_wp2_with (first | (go_at_call 89; refine (rWhole_any _ _).mono ?_; rintro e w' ⟨rfl, rfl⟩; (try rw [hbW])) | (go_at_call 66; refine (rKind_any _ _).mono ?_; rintro e w' ⟨rfl, rfl⟩; (try rw [hbK])))
          go_ret
          exact ⟨ret_bool (by simp), (two_blocks w _ _).1⟩
theorem rfit_13 (c : GCode) (t a n : Int) : fitsB c ⟨13, t, a, n⟩ = (typedB t && (a == 0) && (n == 0)) := by
  have e : fitsB c ⟨13, t, a, n⟩ = (chk c ⟨13, t, a, n⟩ (shapeStr 13)[0] t && chk c ⟨13, t, a, n⟩ (shapeStr 13)[1] a && chk c ⟨13, t, a, n⟩ (shapeStr 13)[2] n) := rfl
  rw [e]
  simp [chk, shapeStr, below_one]
  try (simp only [Bool.and_assoc])
set_option maxHeartbeats 2000000 in
set_option maxRecDepth 100000 in
theorem rIns_13 (c : GCode) (A1 A2 A3 : Option Addr) (c1 c2 c3 : Nat) (t a n : Int) (ht : 0 ≤ t ∧ t ≤ 255) (hn : (c.vars.length : Int) ≤ 9223372036854775807 ∧ (c.blocks.length : Int) ≤ 9223372036854775807 ∧ (c.ins.length : Int) ≤ 9223372036854775807) (w : World) :
    Calls Try.prog 67 #[.agg #[.string c.name, .slice A1 c.vars.length c1, .slice A2 c.blocks.length c2, .slice A3 c.ins.length c3], .agg #[.int .u8 13, .int .u8 t, .int .i64 a, .int .i64 n]] w fun e w' => e = .returned (.bool (fitsB c ⟨13, t, a, n⟩)) ∧ Below w.heap.size w w' := by
  obtain ⟨n1, n2, n3⟩ := hn
  obtain ⟨ht0, ht1⟩ := ht
  rw [rfit_13]
  obtain ⟨lo, hlo⟩ : ∃ lo, (rangeOf t).1 = lo := ⟨_, rfl⟩
  obtain ⟨hi, hhi⟩ : ∃ hi, (rangeOf t).2 = hi := ⟨_, rfl⟩
  obtain ⟨bT, hbT⟩ : ∃ b, typedB t = b := ⟨_, rfl⟩
  obtain ⟨bA, hbA⟩ : ∃ b, (a == 0) = b := ⟨_, rfl⟩
  obtain ⟨bN, hbN⟩ : ∃ b, (n == 0) = b := ⟨_, rfl⟩
  rw [hbT, hbA, hbN]
  have HbT := Fact.mk hbT
  have HbA := Fact.mk hbA
  have HbN := Fact.mk hbN
  clear hbT hbA hbN
  go_enter Try.func67, Try.ntmps67
  go_wp2_with fail
  refine (rRange_any _ _).mono ?_
  rintro e w' ⟨rfl, rfl⟩
  rw [hlo, hhi]
  go_wp2_with fail
  refine (rKind_any _ _).mono ?_
  rintro e w' ⟨rfl, rfl⟩
  go_upto_region 3 with (fail)
  go_cut [8] from 22 to 32 (fun s wx => s = .bool (belowB c.vars.length a) ∧ wx = rfW w c A1 A2 A3 c1 c2 c3 13 t a n)
  case first =>
    by_cases hp : 0 ≤ a
    · have e1 : decide (0 ≤ a) = true := decide_eq_true hp
      go_wp2_with fail
      go_meet
      exact ⟨by unfold belowB; rw [e1]; rfl, rfl⟩
    · have e1 : decide (0 ≤ a) = false := decide_eq_false hp
      clear hp
      go_wp2_with fail
      go_meet
      exact ⟨by unfold belowB; rw [e1]; rfl, rfl⟩
  case rest =>
    obtain ⟨rfl, rfl⟩ := hcut
    go_upto_region 4 with (fail)
    go_cut [9] from 33 to 43 (fun s wx => s = .bool (belowB c.blocks.length a) ∧ wx = rfW w c A1 A2 A3 c1 c2 c3 13 t a n)
    case first =>
      by_cases hp : 0 ≤ a
      · have e1 : decide (0 ≤ a) = true := decide_eq_true hp
        go_wp2_with fail
        go_meet
        exact ⟨by unfold belowB; rw [e1]; rfl, rfl⟩
      · have e1 : decide (0 ≤ a) = false := decide_eq_false hp
        clear hp
        go_wp2_with fail
        go_meet
        exact ⟨by unfold belowB; rw [e1]; rfl, rfl⟩
    case rest =>
      obtain ⟨rfl, rfl⟩ := hcut
      have hbT := HbT.out
      have hbA := HbA.out
      have hbN := HbN.out
      cases bT with
      | false =>
        go_wp2_with (first | (go_at_call 89; refine (rWhole_any _ _).mono ?_; rintro e w' ⟨rfl, rfl⟩; (try rw [hbW])) | (go_at_call 66; refine (rKind_any _ _).mono ?_; rintro e w' ⟨rfl, rfl⟩; (try rw [hbK])))
        go_ret
        exact ⟨ret_bool (by simp), (two_blocks w _ _).1⟩
      | true =>
        cases bA with
        | false =>
          go_wp2_with (first | (go_at_call 89; refine (rWhole_any _ _).mono ?_; rintro e w' ⟨rfl, rfl⟩; (try rw [hbW])) | (go_at_call 66; refine (rKind_any _ _).mono ?_; rintro e w' ⟨rfl, rfl⟩; (try rw [hbK])))
          go_ret
          exact ⟨ret_bool (by simp), (two_blocks w _ _).1⟩
        | true =>
          go_wp2_with (first | (go_at_call 89; refine (rWhole_any _ _).mono ?_; rintro e w' ⟨rfl, rfl⟩; (try rw [hbW])) | (go_at_call 66; refine (rKind_any _ _).mono ?_; rintro e w' ⟨rfl, rfl⟩; (try rw [hbK])))
          go_ret
          exact ⟨ret_bool (by simp), (two_blocks w _ _).1⟩
theorem rfit_14 (c : GCode) (t a n : Int) : fitsB c ⟨14, t, a, n⟩ = (wholeB t && (a == 0) && (n == 0)) := by
  have e : fitsB c ⟨14, t, a, n⟩ = (chk c ⟨14, t, a, n⟩ (shapeStr 14)[0] t && chk c ⟨14, t, a, n⟩ (shapeStr 14)[1] a && chk c ⟨14, t, a, n⟩ (shapeStr 14)[2] n) := rfl
  rw [e]
  simp [chk, shapeStr, below_one]
  try (simp only [Bool.and_assoc])
set_option maxHeartbeats 2000000 in
set_option maxRecDepth 100000 in
theorem rIns_14 (c : GCode) (A1 A2 A3 : Option Addr) (c1 c2 c3 : Nat) (t a n : Int) (ht : 0 ≤ t ∧ t ≤ 255) (hn : (c.vars.length : Int) ≤ 9223372036854775807 ∧ (c.blocks.length : Int) ≤ 9223372036854775807 ∧ (c.ins.length : Int) ≤ 9223372036854775807) (w : World) :
    Calls Try.prog 67 #[.agg #[.string c.name, .slice A1 c.vars.length c1, .slice A2 c.blocks.length c2, .slice A3 c.ins.length c3], .agg #[.int .u8 14, .int .u8 t, .int .i64 a, .int .i64 n]] w fun e w' => e = .returned (.bool (fitsB c ⟨14, t, a, n⟩)) ∧ Below w.heap.size w w' := by
  obtain ⟨n1, n2, n3⟩ := hn
  obtain ⟨ht0, ht1⟩ := ht
  rw [rfit_14]
  obtain ⟨lo, hlo⟩ : ∃ lo, (rangeOf t).1 = lo := ⟨_, rfl⟩
  obtain ⟨hi, hhi⟩ : ∃ hi, (rangeOf t).2 = hi := ⟨_, rfl⟩
  obtain ⟨bW, hbW⟩ : ∃ b, wholeB t = b := ⟨_, rfl⟩
  obtain ⟨bA, hbA⟩ : ∃ b, (a == 0) = b := ⟨_, rfl⟩
  obtain ⟨bN, hbN⟩ : ∃ b, (n == 0) = b := ⟨_, rfl⟩
  rw [hbW, hbA, hbN]
  have HbW := Fact.mk hbW
  have HbA := Fact.mk hbA
  have HbN := Fact.mk hbN
  clear hbW hbA hbN
  go_enter Try.func67, Try.ntmps67
  go_wp2_with fail
  refine (rRange_any _ _).mono ?_
  rintro e w' ⟨rfl, rfl⟩
  rw [hlo, hhi]
  go_wp2_with fail
  refine (rKind_any _ _).mono ?_
  rintro e w' ⟨rfl, rfl⟩
  go_upto_region 3 with (fail)
  go_cut [8] from 22 to 32 (fun s wx => s = .bool (belowB c.vars.length a) ∧ wx = rfW w c A1 A2 A3 c1 c2 c3 14 t a n)
  case first =>
    by_cases hp : 0 ≤ a
    · have e1 : decide (0 ≤ a) = true := decide_eq_true hp
      go_wp2_with fail
      go_meet
      exact ⟨by unfold belowB; rw [e1]; rfl, rfl⟩
    · have e1 : decide (0 ≤ a) = false := decide_eq_false hp
      clear hp
      go_wp2_with fail
      go_meet
      exact ⟨by unfold belowB; rw [e1]; rfl, rfl⟩
  case rest =>
    obtain ⟨rfl, rfl⟩ := hcut
    go_upto_region 4 with (fail)
    go_cut [9] from 33 to 43 (fun s wx => s = .bool (belowB c.blocks.length a) ∧ wx = rfW w c A1 A2 A3 c1 c2 c3 14 t a n)
    case first =>
      by_cases hp : 0 ≤ a
      · have e1 : decide (0 ≤ a) = true := decide_eq_true hp
        go_wp2_with fail
        go_meet
        exact ⟨by unfold belowB; rw [e1]; rfl, rfl⟩
      · have e1 : decide (0 ≤ a) = false := decide_eq_false hp
        clear hp
        go_wp2_with fail
        go_meet
        exact ⟨by unfold belowB; rw [e1]; rfl, rfl⟩
    case rest =>
      obtain ⟨rfl, rfl⟩ := hcut
      have hbW := HbW.out
      have hbA := HbA.out
      have hbN := HbN.out
      cases bW with
      | false =>
        go_wp2_with (first | (go_at_call 89; refine (rWhole_any _ _).mono ?_; rintro e w' ⟨rfl, rfl⟩; (try rw [hbW])) | (go_at_call 66; refine (rKind_any _ _).mono ?_; rintro e w' ⟨rfl, rfl⟩; (try rw [hbK])))
        go_ret
        exact ⟨ret_bool (by simp), (two_blocks w _ _).1⟩
      | true =>
        cases bA with
        | false =>
          go_wp2_with (first | (go_at_call 89; refine (rWhole_any _ _).mono ?_; rintro e w' ⟨rfl, rfl⟩; (try rw [hbW])) | (go_at_call 66; refine (rKind_any _ _).mono ?_; rintro e w' ⟨rfl, rfl⟩; (try rw [hbK])))
          go_ret
          exact ⟨ret_bool (by simp), (two_blocks w _ _).1⟩
        | true =>
          go_wp2_with (first | (go_at_call 89; refine (rWhole_any _ _).mono ?_; rintro e w' ⟨rfl, rfl⟩; (try rw [hbW])) | (go_at_call 66; refine (rKind_any _ _).mono ?_; rintro e w' ⟨rfl, rfl⟩; (try rw [hbK])))
          go_ret
          exact ⟨ret_bool (by simp), (two_blocks w _ _).1⟩
theorem rfit_15 (c : GCode) (t a n : Int) : fitsB c ⟨15, t, a, n⟩ = (typedB t && typedB a && (n == 0)) := by
  have e : fitsB c ⟨15, t, a, n⟩ = (chk c ⟨15, t, a, n⟩ (shapeStr 15)[0] t && chk c ⟨15, t, a, n⟩ (shapeStr 15)[1] a && chk c ⟨15, t, a, n⟩ (shapeStr 15)[2] n) := rfl
  rw [e]
  simp [chk, shapeStr, below_one]
  try (simp only [Bool.and_assoc])
set_option maxHeartbeats 2000000 in
set_option maxRecDepth 100000 in
theorem rIns_15 (c : GCode) (A1 A2 A3 : Option Addr) (c1 c2 c3 : Nat) (t a n : Int) (ht : 0 ≤ t ∧ t ≤ 255) (hn : (c.vars.length : Int) ≤ 9223372036854775807 ∧ (c.blocks.length : Int) ≤ 9223372036854775807 ∧ (c.ins.length : Int) ≤ 9223372036854775807) (w : World) :
    Calls Try.prog 67 #[.agg #[.string c.name, .slice A1 c.vars.length c1, .slice A2 c.blocks.length c2, .slice A3 c.ins.length c3], .agg #[.int .u8 15, .int .u8 t, .int .i64 a, .int .i64 n]] w fun e w' => e = .returned (.bool (fitsB c ⟨15, t, a, n⟩)) ∧ Below w.heap.size w w' := by
  obtain ⟨n1, n2, n3⟩ := hn
  obtain ⟨ht0, ht1⟩ := ht
  rw [rfit_15]
  obtain ⟨lo, hlo⟩ : ∃ lo, (rangeOf t).1 = lo := ⟨_, rfl⟩
  obtain ⟨hi, hhi⟩ : ∃ hi, (rangeOf t).2 = hi := ⟨_, rfl⟩
  obtain ⟨bT, hbT⟩ : ∃ b, typedB t = b := ⟨_, rfl⟩
  obtain ⟨bK, hbK⟩ : ∃ b, typedB a = b := ⟨_, rfl⟩
  obtain ⟨bN, hbN⟩ : ∃ b, (n == 0) = b := ⟨_, rfl⟩
  rw [hbT, hbK, hbN]
  have HbT := Fact.mk hbT
  have HbK := Fact.mk hbK
  have HbN := Fact.mk hbN
  clear hbT hbK hbN
  go_enter Try.func67, Try.ntmps67
  go_wp2_with fail
  refine (rRange_any _ _).mono ?_
  rintro e w' ⟨rfl, rfl⟩
  rw [hlo, hhi]
  go_wp2_with fail
  refine (rKind_any _ _).mono ?_
  rintro e w' ⟨rfl, rfl⟩
  go_upto_region 3 with (fail)
  go_cut [8] from 22 to 32 (fun s wx => s = .bool (belowB c.vars.length a) ∧ wx = rfW w c A1 A2 A3 c1 c2 c3 15 t a n)
  case first =>
    by_cases hp : 0 ≤ a
    · have e1 : decide (0 ≤ a) = true := decide_eq_true hp
      go_wp2_with fail
      go_meet
      exact ⟨by unfold belowB; rw [e1]; rfl, rfl⟩
    · have e1 : decide (0 ≤ a) = false := decide_eq_false hp
      clear hp
      go_wp2_with fail
      go_meet
      exact ⟨by unfold belowB; rw [e1]; rfl, rfl⟩
  case rest =>
    obtain ⟨rfl, rfl⟩ := hcut
    go_upto_region 4 with (fail)
    go_cut [9] from 33 to 43 (fun s wx => s = .bool (belowB c.blocks.length a) ∧ wx = rfW w c A1 A2 A3 c1 c2 c3 15 t a n)
    case first =>
      by_cases hp : 0 ≤ a
      · have e1 : decide (0 ≤ a) = true := decide_eq_true hp
        go_wp2_with fail
        go_meet
        exact ⟨by unfold belowB; rw [e1]; rfl, rfl⟩
      · have e1 : decide (0 ≤ a) = false := decide_eq_false hp
        clear hp
        go_wp2_with fail
        go_meet
        exact ⟨by unfold belowB; rw [e1]; rfl, rfl⟩
    case rest =>
      obtain ⟨rfl, rfl⟩ := hcut
      have hbT := HbT.out
      have hbK := HbK.out
      have hbN := HbN.out
      cases bT with
      | false =>
        go_wp2_with (first | (go_at_call 89; refine (rWhole_any _ _).mono ?_; rintro e w' ⟨rfl, rfl⟩; (try rw [hbW])) | (go_at_call 66; refine (rKind_any _ _).mono ?_; rintro e w' ⟨rfl, rfl⟩; (try rw [hbK])))
        go_ret
        exact ⟨ret_bool (by simp), (two_blocks w _ _).1⟩
      | true =>
        cases bK with
        | false =>
          go_wp2_with (first | (go_at_call 89; refine (rWhole_any _ _).mono ?_; rintro e w' ⟨rfl, rfl⟩; (try rw [hbW])) | (go_at_call 66; refine (rKind_any _ _).mono ?_; rintro e w' ⟨rfl, rfl⟩; (try rw [hbK])))
          go_ret
          exact ⟨ret_bool (by simp), (two_blocks w _ _).1⟩
        | true =>
          go_wp2_with (first | (go_at_call 89; refine (rWhole_any _ _).mono ?_; rintro e w' ⟨rfl, rfl⟩; (try rw [hbW])) | (go_at_call 66; refine (rKind_any _ _).mono ?_; rintro e w' ⟨rfl, rfl⟩; (try rw [hbK])))
          go_ret
          exact ⟨ret_bool (by simp), (two_blocks w _ _).1⟩
theorem rfit_16 (c : GCode) (t a n : Int) : fitsB c ⟨16, t, a, n⟩ = ((t == 0) && (a == 0) && (n == 0)) := by
  have e : fitsB c ⟨16, t, a, n⟩ = (chk c ⟨16, t, a, n⟩ (shapeStr 16)[0] t && chk c ⟨16, t, a, n⟩ (shapeStr 16)[1] a && chk c ⟨16, t, a, n⟩ (shapeStr 16)[2] n) := rfl
  rw [e]
  simp [chk, shapeStr, below_one]
  try (simp only [Bool.and_assoc])
set_option maxHeartbeats 2000000 in
set_option maxRecDepth 100000 in
theorem rIns_16 (c : GCode) (A1 A2 A3 : Option Addr) (c1 c2 c3 : Nat) (t a n : Int) (ht : 0 ≤ t ∧ t ≤ 255) (hn : (c.vars.length : Int) ≤ 9223372036854775807 ∧ (c.blocks.length : Int) ≤ 9223372036854775807 ∧ (c.ins.length : Int) ≤ 9223372036854775807) (w : World) :
    Calls Try.prog 67 #[.agg #[.string c.name, .slice A1 c.vars.length c1, .slice A2 c.blocks.length c2, .slice A3 c.ins.length c3], .agg #[.int .u8 16, .int .u8 t, .int .i64 a, .int .i64 n]] w fun e w' => e = .returned (.bool (fitsB c ⟨16, t, a, n⟩)) ∧ Below w.heap.size w w' := by
  obtain ⟨n1, n2, n3⟩ := hn
  obtain ⟨ht0, ht1⟩ := ht
  rw [rfit_16]
  obtain ⟨lo, hlo⟩ : ∃ lo, (rangeOf t).1 = lo := ⟨_, rfl⟩
  obtain ⟨hi, hhi⟩ : ∃ hi, (rangeOf t).2 = hi := ⟨_, rfl⟩
  obtain ⟨bt, hbt⟩ : ∃ b, (t == 0) = b := ⟨_, rfl⟩
  obtain ⟨bA, hbA⟩ : ∃ b, (a == 0) = b := ⟨_, rfl⟩
  obtain ⟨bN, hbN⟩ : ∃ b, (n == 0) = b := ⟨_, rfl⟩
  rw [hbt, hbA, hbN]
  have Hbt := Fact.mk hbt
  have HbA := Fact.mk hbA
  have HbN := Fact.mk hbN
  clear hbt hbA hbN
  go_enter Try.func67, Try.ntmps67
  go_wp2_with fail
  refine (rRange_any _ _).mono ?_
  rintro e w' ⟨rfl, rfl⟩
  rw [hlo, hhi]
  go_wp2_with fail
  refine (rKind_any _ _).mono ?_
  rintro e w' ⟨rfl, rfl⟩
  go_upto_region 3 with (fail)
  go_cut [8] from 22 to 32 (fun s wx => s = .bool (belowB c.vars.length a) ∧ wx = rfW w c A1 A2 A3 c1 c2 c3 16 t a n)
  case first =>
    by_cases hp : 0 ≤ a
    · have e1 : decide (0 ≤ a) = true := decide_eq_true hp
      go_wp2_with fail
      go_meet
      exact ⟨by unfold belowB; rw [e1]; rfl, rfl⟩
    · have e1 : decide (0 ≤ a) = false := decide_eq_false hp
      clear hp
      go_wp2_with fail
      go_meet
      exact ⟨by unfold belowB; rw [e1]; rfl, rfl⟩
  case rest =>
    obtain ⟨rfl, rfl⟩ := hcut
    go_upto_region 4 with (fail)
    go_cut [9] from 33 to 43 (fun s wx => s = .bool (belowB c.blocks.length a) ∧ wx = rfW w c A1 A2 A3 c1 c2 c3 16 t a n)
    case first =>
      by_cases hp : 0 ≤ a
      · have e1 : decide (0 ≤ a) = true := decide_eq_true hp
        go_wp2_with fail
        go_meet
        exact ⟨by unfold belowB; rw [e1]; rfl, rfl⟩
      · have e1 : decide (0 ≤ a) = false := decide_eq_false hp
        clear hp
        go_wp2_with fail
        go_meet
        exact ⟨by unfold belowB; rw [e1]; rfl, rfl⟩
    case rest =>
      obtain ⟨rfl, rfl⟩ := hcut
      have hbt := Hbt.out
      have hbA := HbA.out
      have hbN := HbN.out
      cases bt with
      | false =>
        go_wp2_with (first | (go_at_call 89; refine (rWhole_any _ _).mono ?_; rintro e w' ⟨rfl, rfl⟩; (try rw [hbW])) | (go_at_call 66; refine (rKind_any _ _).mono ?_; rintro e w' ⟨rfl, rfl⟩; (try rw [hbK])))
        go_ret
        exact ⟨ret_bool (by simp), (two_blocks w _ _).1⟩
      | true =>
        cases bA with
        | false =>
          go_wp2_with (first | (go_at_call 89; refine (rWhole_any _ _).mono ?_; rintro e w' ⟨rfl, rfl⟩; (try rw [hbW])) | (go_at_call 66; refine (rKind_any _ _).mono ?_; rintro e w' ⟨rfl, rfl⟩; (try rw [hbK])))
          go_ret
          exact ⟨ret_bool (by simp), (two_blocks w _ _).1⟩
        | true =>
          go_wp2_with (first | (go_at_call 89; refine (rWhole_any _ _).mono ?_; rintro e w' ⟨rfl, rfl⟩; (try rw [hbW])) | (go_at_call 66; refine (rKind_any _ _).mono ?_; rintro e w' ⟨rfl, rfl⟩; (try rw [hbK])))
          go_ret
          exact ⟨ret_bool (by simp), (two_blocks w _ _).1⟩
theorem rfit_17 (c : GCode) (t a n : Int) : fitsB c ⟨17, t, a, n⟩ = ((t == 0) && (a == 0) && (n == 0)) := by
  have e : fitsB c ⟨17, t, a, n⟩ = (chk c ⟨17, t, a, n⟩ (shapeStr 17)[0] t && chk c ⟨17, t, a, n⟩ (shapeStr 17)[1] a && chk c ⟨17, t, a, n⟩ (shapeStr 17)[2] n) := rfl
  rw [e]
  simp [chk, shapeStr, below_one]
  try (simp only [Bool.and_assoc])
set_option maxHeartbeats 2000000 in
set_option maxRecDepth 100000 in
theorem rIns_17 (c : GCode) (A1 A2 A3 : Option Addr) (c1 c2 c3 : Nat) (t a n : Int) (ht : 0 ≤ t ∧ t ≤ 255) (hn : (c.vars.length : Int) ≤ 9223372036854775807 ∧ (c.blocks.length : Int) ≤ 9223372036854775807 ∧ (c.ins.length : Int) ≤ 9223372036854775807) (w : World) :
    Calls Try.prog 67 #[.agg #[.string c.name, .slice A1 c.vars.length c1, .slice A2 c.blocks.length c2, .slice A3 c.ins.length c3], .agg #[.int .u8 17, .int .u8 t, .int .i64 a, .int .i64 n]] w fun e w' => e = .returned (.bool (fitsB c ⟨17, t, a, n⟩)) ∧ Below w.heap.size w w' := by
  obtain ⟨n1, n2, n3⟩ := hn
  obtain ⟨ht0, ht1⟩ := ht
  rw [rfit_17]
  obtain ⟨lo, hlo⟩ : ∃ lo, (rangeOf t).1 = lo := ⟨_, rfl⟩
  obtain ⟨hi, hhi⟩ : ∃ hi, (rangeOf t).2 = hi := ⟨_, rfl⟩
  obtain ⟨bt, hbt⟩ : ∃ b, (t == 0) = b := ⟨_, rfl⟩
  obtain ⟨bA, hbA⟩ : ∃ b, (a == 0) = b := ⟨_, rfl⟩
  obtain ⟨bN, hbN⟩ : ∃ b, (n == 0) = b := ⟨_, rfl⟩
  rw [hbt, hbA, hbN]
  have Hbt := Fact.mk hbt
  have HbA := Fact.mk hbA
  have HbN := Fact.mk hbN
  clear hbt hbA hbN
  go_enter Try.func67, Try.ntmps67
  go_wp2_with fail
  refine (rRange_any _ _).mono ?_
  rintro e w' ⟨rfl, rfl⟩
  rw [hlo, hhi]
  go_wp2_with fail
  refine (rKind_any _ _).mono ?_
  rintro e w' ⟨rfl, rfl⟩
  go_upto_region 3 with (fail)
  go_cut [8] from 22 to 32 (fun s wx => s = .bool (belowB c.vars.length a) ∧ wx = rfW w c A1 A2 A3 c1 c2 c3 17 t a n)
  case first =>
    by_cases hp : 0 ≤ a
    · have e1 : decide (0 ≤ a) = true := decide_eq_true hp
      go_wp2_with fail
      go_meet
      exact ⟨by unfold belowB; rw [e1]; rfl, rfl⟩
    · have e1 : decide (0 ≤ a) = false := decide_eq_false hp
      clear hp
      go_wp2_with fail
      go_meet
      exact ⟨by unfold belowB; rw [e1]; rfl, rfl⟩
  case rest =>
    obtain ⟨rfl, rfl⟩ := hcut
    go_upto_region 4 with (fail)
    go_cut [9] from 33 to 43 (fun s wx => s = .bool (belowB c.blocks.length a) ∧ wx = rfW w c A1 A2 A3 c1 c2 c3 17 t a n)
    case first =>
      by_cases hp : 0 ≤ a
      · have e1 : decide (0 ≤ a) = true := decide_eq_true hp
        go_wp2_with fail
        go_meet
        exact ⟨by unfold belowB; rw [e1]; rfl, rfl⟩
      · have e1 : decide (0 ≤ a) = false := decide_eq_false hp
        clear hp
        go_wp2_with fail
        go_meet
        exact ⟨by unfold belowB; rw [e1]; rfl, rfl⟩
    case rest =>
      obtain ⟨rfl, rfl⟩ := hcut
      have hbt := Hbt.out
      have hbA := HbA.out
      have hbN := HbN.out
      cases bt with
      | false =>
        go_wp2_with (first | (go_at_call 89; refine (rWhole_any _ _).mono ?_; rintro e w' ⟨rfl, rfl⟩; (try rw [hbW])) | (go_at_call 66; refine (rKind_any _ _).mono ?_; rintro e w' ⟨rfl, rfl⟩; (try rw [hbK])))
        go_ret
        exact ⟨ret_bool (by simp), (two_blocks w _ _).1⟩
      | true =>
        cases bA with
        | false =>
          go_wp2_with (first | (go_at_call 89; refine (rWhole_any _ _).mono ?_; rintro e w' ⟨rfl, rfl⟩; (try rw [hbW])) | (go_at_call 66; refine (rKind_any _ _).mono ?_; rintro e w' ⟨rfl, rfl⟩; (try rw [hbK])))
          go_ret
          exact ⟨ret_bool (by simp), (two_blocks w _ _).1⟩
        | true =>
          go_wp2_with (first | (go_at_call 89; refine (rWhole_any _ _).mono ?_; rintro e w' ⟨rfl, rfl⟩; (try rw [hbW])) | (go_at_call 66; refine (rKind_any _ _).mono ?_; rintro e w' ⟨rfl, rfl⟩; (try rw [hbK])))
          go_ret
          exact ⟨ret_bool (by simp), (two_blocks w _ _).1⟩
theorem rfit_18 (c : GCode) (t a n : Int) : fitsB c ⟨18, t, a, n⟩ = ((t == 0) && decide (0 ≤ a) && decide (a ≤ (c.ins.length : Int)) && (n == 0)) := by
  have e : fitsB c ⟨18, t, a, n⟩ = (chk c ⟨18, t, a, n⟩ (shapeStr 18)[0] t && chk c ⟨18, t, a, n⟩ (shapeStr 18)[1] a && chk c ⟨18, t, a, n⟩ (shapeStr 18)[2] n) := rfl
  rw [e]
  simp [chk, shapeStr, below_one, below_jump]
  try (simp only [Bool.and_assoc])
set_option maxHeartbeats 2000000 in
set_option maxRecDepth 100000 in
theorem rIns_18 (c : GCode) (A1 A2 A3 : Option Addr) (c1 c2 c3 : Nat) (t a n : Int) (ht : 0 ≤ t ∧ t ≤ 255) (hn : (c.vars.length : Int) ≤ 9223372036854775807 ∧ (c.blocks.length : Int) ≤ 9223372036854775807 ∧ (c.ins.length : Int) ≤ 9223372036854775807) (w : World) :
    Calls Try.prog 67 #[.agg #[.string c.name, .slice A1 c.vars.length c1, .slice A2 c.blocks.length c2, .slice A3 c.ins.length c3], .agg #[.int .u8 18, .int .u8 t, .int .i64 a, .int .i64 n]] w fun e w' => e = .returned (.bool (fitsB c ⟨18, t, a, n⟩)) ∧ Below w.heap.size w w' := by
  obtain ⟨n1, n2, n3⟩ := hn
  obtain ⟨ht0, ht1⟩ := ht
  rw [rfit_18]
  obtain ⟨lo, hlo⟩ : ∃ lo, (rangeOf t).1 = lo := ⟨_, rfl⟩
  obtain ⟨hi, hhi⟩ : ∃ hi, (rangeOf t).2 = hi := ⟨_, rfl⟩
  obtain ⟨bt, hbt⟩ : ∃ b, (t == 0) = b := ⟨_, rfl⟩
  obtain ⟨bP, hbP⟩ : ∃ b, decide (0 ≤ a) = b := ⟨_, rfl⟩
  obtain ⟨bJ, hbJ⟩ : ∃ b, decide (a ≤ (c.ins.length : Int)) = b := ⟨_, rfl⟩
  obtain ⟨bN, hbN⟩ : ∃ b, (n == 0) = b := ⟨_, rfl⟩
  rw [hbt, hbP, hbJ, hbN]
  have Hbt := Fact.mk hbt
  have HbP := Fact.mk hbP
  have HbJ := Fact.mk hbJ
  have HbN := Fact.mk hbN
  clear hbt hbP hbJ hbN
  go_enter Try.func67, Try.ntmps67
  go_wp2_with fail
  refine (rRange_any _ _).mono ?_
  rintro e w' ⟨rfl, rfl⟩
  rw [hlo, hhi]
  go_wp2_with fail
  refine (rKind_any _ _).mono ?_
  rintro e w' ⟨rfl, rfl⟩
  go_upto_region 3 with (fail)
  go_cut [8] from 22 to 32 (fun s wx => s = .bool (belowB c.vars.length a) ∧ wx = rfW w c A1 A2 A3 c1 c2 c3 18 t a n)
  case first =>
    by_cases hp : 0 ≤ a
    · have e1 : decide (0 ≤ a) = true := decide_eq_true hp
      go_wp2_with fail
      go_meet
      exact ⟨by unfold belowB; rw [e1]; rfl, rfl⟩
    · have e1 : decide (0 ≤ a) = false := decide_eq_false hp
      clear hp
      go_wp2_with fail
      go_meet
      exact ⟨by unfold belowB; rw [e1]; rfl, rfl⟩
  case rest =>
    obtain ⟨rfl, rfl⟩ := hcut
    go_upto_region 4 with (fail)
    go_cut [9] from 33 to 43 (fun s wx => s = .bool (belowB c.blocks.length a) ∧ wx = rfW w c A1 A2 A3 c1 c2 c3 18 t a n)
    case first =>
      by_cases hp : 0 ≤ a
      · have e1 : decide (0 ≤ a) = true := decide_eq_true hp
        go_wp2_with fail
        go_meet
        exact ⟨by unfold belowB; rw [e1]; rfl, rfl⟩
      · have e1 : decide (0 ≤ a) = false := decide_eq_false hp
        clear hp
        go_wp2_with fail
        go_meet
        exact ⟨by unfold belowB; rw [e1]; rfl, rfl⟩
    case rest =>
      obtain ⟨rfl, rfl⟩ := hcut
      have hbt := Hbt.out
      have hbP := HbP.out
      have hbJ := HbJ.out
      have hbN := HbN.out
      cases bt with
      | false =>
        go_wp2_with (first | (go_at_call 89; refine (rWhole_any _ _).mono ?_; rintro e w' ⟨rfl, rfl⟩; (try rw [hbW])) | (go_at_call 66; refine (rKind_any _ _).mono ?_; rintro e w' ⟨rfl, rfl⟩; (try rw [hbK])))
        go_ret
        exact ⟨ret_bool (by simp), (two_blocks w _ _).1⟩
      | true =>
        cases bP with
        | false =>
          go_wp2_with (first | (go_at_call 89; refine (rWhole_any _ _).mono ?_; rintro e w' ⟨rfl, rfl⟩; (try rw [hbW])) | (go_at_call 66; refine (rKind_any _ _).mono ?_; rintro e w' ⟨rfl, rfl⟩; (try rw [hbK])))
          go_ret
          exact ⟨ret_bool (by simp), (two_blocks w _ _).1⟩
        | true =>
          cases bJ with
          | false =>
            go_wp2_with (first | (go_at_call 89; refine (rWhole_any _ _).mono ?_; rintro e w' ⟨rfl, rfl⟩; (try rw [hbW])) | (go_at_call 66; refine (rKind_any _ _).mono ?_; rintro e w' ⟨rfl, rfl⟩; (try rw [hbK])))
            go_ret
            exact ⟨ret_bool (by simp), (two_blocks w _ _).1⟩
          | true =>
            go_wp2_with (first | (go_at_call 89; refine (rWhole_any _ _).mono ?_; rintro e w' ⟨rfl, rfl⟩; (try rw [hbW])) | (go_at_call 66; refine (rKind_any _ _).mono ?_; rintro e w' ⟨rfl, rfl⟩; (try rw [hbK])))
            go_ret
            exact ⟨ret_bool (by simp), (two_blocks w _ _).1⟩
theorem rfit_19 (c : GCode) (t a n : Int) : fitsB c ⟨19, t, a, n⟩ = ((t == 0) && decide (0 ≤ a) && decide (a ≤ (c.ins.length : Int)) && (n == 0)) := by
  have e : fitsB c ⟨19, t, a, n⟩ = (chk c ⟨19, t, a, n⟩ (shapeStr 19)[0] t && chk c ⟨19, t, a, n⟩ (shapeStr 19)[1] a && chk c ⟨19, t, a, n⟩ (shapeStr 19)[2] n) := rfl
  rw [e]
  simp [chk, shapeStr, below_one, below_jump]
  try (simp only [Bool.and_assoc])
set_option maxHeartbeats 2000000 in
set_option maxRecDepth 100000 in
theorem rIns_19 (c : GCode) (A1 A2 A3 : Option Addr) (c1 c2 c3 : Nat) (t a n : Int) (ht : 0 ≤ t ∧ t ≤ 255) (hn : (c.vars.length : Int) ≤ 9223372036854775807 ∧ (c.blocks.length : Int) ≤ 9223372036854775807 ∧ (c.ins.length : Int) ≤ 9223372036854775807) (w : World) :
    Calls Try.prog 67 #[.agg #[.string c.name, .slice A1 c.vars.length c1, .slice A2 c.blocks.length c2, .slice A3 c.ins.length c3], .agg #[.int .u8 19, .int .u8 t, .int .i64 a, .int .i64 n]] w fun e w' => e = .returned (.bool (fitsB c ⟨19, t, a, n⟩)) ∧ Below w.heap.size w w' := by
  obtain ⟨n1, n2, n3⟩ := hn
  obtain ⟨ht0, ht1⟩ := ht
  rw [rfit_19]
  obtain ⟨lo, hlo⟩ : ∃ lo, (rangeOf t).1 = lo := ⟨_, rfl⟩
  obtain ⟨hi, hhi⟩ : ∃ hi, (rangeOf t).2 = hi := ⟨_, rfl⟩
  obtain ⟨bt, hbt⟩ : ∃ b, (t == 0) = b := ⟨_, rfl⟩
  obtain ⟨bP, hbP⟩ : ∃ b, decide (0 ≤ a) = b := ⟨_, rfl⟩
  obtain ⟨bJ, hbJ⟩ : ∃ b, decide (a ≤ (c.ins.length : Int)) = b := ⟨_, rfl⟩
  obtain ⟨bN, hbN⟩ : ∃ b, (n == 0) = b := ⟨_, rfl⟩
  rw [hbt, hbP, hbJ, hbN]
  have Hbt := Fact.mk hbt
  have HbP := Fact.mk hbP
  have HbJ := Fact.mk hbJ
  have HbN := Fact.mk hbN
  clear hbt hbP hbJ hbN
  go_enter Try.func67, Try.ntmps67
  go_wp2_with fail
  refine (rRange_any _ _).mono ?_
  rintro e w' ⟨rfl, rfl⟩
  rw [hlo, hhi]
  go_wp2_with fail
  refine (rKind_any _ _).mono ?_
  rintro e w' ⟨rfl, rfl⟩
  go_upto_region 3 with (fail)
  go_cut [8] from 22 to 32 (fun s wx => s = .bool (belowB c.vars.length a) ∧ wx = rfW w c A1 A2 A3 c1 c2 c3 19 t a n)
  case first =>
    by_cases hp : 0 ≤ a
    · have e1 : decide (0 ≤ a) = true := decide_eq_true hp
      go_wp2_with fail
      go_meet
      exact ⟨by unfold belowB; rw [e1]; rfl, rfl⟩
    · have e1 : decide (0 ≤ a) = false := decide_eq_false hp
      clear hp
      go_wp2_with fail
      go_meet
      exact ⟨by unfold belowB; rw [e1]; rfl, rfl⟩
  case rest =>
    obtain ⟨rfl, rfl⟩ := hcut
    go_upto_region 4 with (fail)
    go_cut [9] from 33 to 43 (fun s wx => s = .bool (belowB c.blocks.length a) ∧ wx = rfW w c A1 A2 A3 c1 c2 c3 19 t a n)
    case first =>
      by_cases hp : 0 ≤ a
      · have e1 : decide (0 ≤ a) = true := decide_eq_true hp
        go_wp2_with fail
        go_meet
        exact ⟨by unfold belowB; rw [e1]; rfl, rfl⟩
      · have e1 : decide (0 ≤ a) = false := decide_eq_false hp
        clear hp
        go_wp2_with fail
        go_meet
        exact ⟨by unfold belowB; rw [e1]; rfl, rfl⟩
    case rest =>
      obtain ⟨rfl, rfl⟩ := hcut
      have hbt := Hbt.out
      have hbP := HbP.out
      have hbJ := HbJ.out
      have hbN := HbN.out
      cases bt with
      | false =>
        go_wp2_with (first | (go_at_call 89; refine (rWhole_any _ _).mono ?_; rintro e w' ⟨rfl, rfl⟩; (try rw [hbW])) | (go_at_call 66; refine (rKind_any _ _).mono ?_; rintro e w' ⟨rfl, rfl⟩; (try rw [hbK])))
        go_ret
        exact ⟨ret_bool (by simp), (two_blocks w _ _).1⟩
      | true =>
        cases bP with
        | false =>
          go_wp2_with (first | (go_at_call 89; refine (rWhole_any _ _).mono ?_; rintro e w' ⟨rfl, rfl⟩; (try rw [hbW])) | (go_at_call 66; refine (rKind_any _ _).mono ?_; rintro e w' ⟨rfl, rfl⟩; (try rw [hbK])))
          go_ret
          exact ⟨ret_bool (by simp), (two_blocks w _ _).1⟩
        | true =>
          cases bJ with
          | false =>
            go_wp2_with (first | (go_at_call 89; refine (rWhole_any _ _).mono ?_; rintro e w' ⟨rfl, rfl⟩; (try rw [hbW])) | (go_at_call 66; refine (rKind_any _ _).mono ?_; rintro e w' ⟨rfl, rfl⟩; (try rw [hbK])))
            go_ret
            exact ⟨ret_bool (by simp), (two_blocks w _ _).1⟩
          | true =>
            go_wp2_with (first | (go_at_call 89; refine (rWhole_any _ _).mono ?_; rintro e w' ⟨rfl, rfl⟩; (try rw [hbW])) | (go_at_call 66; refine (rKind_any _ _).mono ?_; rintro e w' ⟨rfl, rfl⟩; (try rw [hbK])))
            go_ret
            exact ⟨ret_bool (by simp), (two_blocks w _ _).1⟩
theorem rfit_20 (c : GCode) (t a n : Int) : fitsB c ⟨20, t, a, n⟩ = ((t == 0) && belowB c.blocks.length a && (n == 0)) := by
  have e : fitsB c ⟨20, t, a, n⟩ = (chk c ⟨20, t, a, n⟩ (shapeStr 20)[0] t && chk c ⟨20, t, a, n⟩ (shapeStr 20)[1] a && chk c ⟨20, t, a, n⟩ (shapeStr 20)[2] n) := rfl
  rw [e]
  simp [chk, shapeStr, below_one]
  try (simp only [Bool.and_assoc])
set_option maxHeartbeats 2000000 in
set_option maxRecDepth 100000 in
theorem rIns_20 (c : GCode) (A1 A2 A3 : Option Addr) (c1 c2 c3 : Nat) (t a n : Int) (ht : 0 ≤ t ∧ t ≤ 255) (hn : (c.vars.length : Int) ≤ 9223372036854775807 ∧ (c.blocks.length : Int) ≤ 9223372036854775807 ∧ (c.ins.length : Int) ≤ 9223372036854775807) (w : World) :
    Calls Try.prog 67 #[.agg #[.string c.name, .slice A1 c.vars.length c1, .slice A2 c.blocks.length c2, .slice A3 c.ins.length c3], .agg #[.int .u8 20, .int .u8 t, .int .i64 a, .int .i64 n]] w fun e w' => e = .returned (.bool (fitsB c ⟨20, t, a, n⟩)) ∧ Below w.heap.size w w' := by
  obtain ⟨n1, n2, n3⟩ := hn
  obtain ⟨ht0, ht1⟩ := ht
  rw [rfit_20]
  obtain ⟨lo, hlo⟩ : ∃ lo, (rangeOf t).1 = lo := ⟨_, rfl⟩
  obtain ⟨hi, hhi⟩ : ∃ hi, (rangeOf t).2 = hi := ⟨_, rfl⟩
  obtain ⟨bt, hbt⟩ : ∃ b, (t == 0) = b := ⟨_, rfl⟩
  obtain ⟨bB, hbB⟩ : ∃ b, belowB c.blocks.length a = b := ⟨_, rfl⟩
  obtain ⟨bN, hbN⟩ : ∃ b, (n == 0) = b := ⟨_, rfl⟩
  rw [hbt, hbB, hbN]
  have Hbt := Fact.mk hbt
  have HbB := Fact.mk hbB
  have HbN := Fact.mk hbN
  clear hbt hbB hbN
  go_enter Try.func67, Try.ntmps67
  go_wp2_with fail
  refine (rRange_any _ _).mono ?_
  rintro e w' ⟨rfl, rfl⟩
  rw [hlo, hhi]
  go_wp2_with fail
  refine (rKind_any _ _).mono ?_
  rintro e w' ⟨rfl, rfl⟩
  go_upto_region 3 with (fail)
  go_cut [8] from 22 to 32 (fun s wx => s = .bool (belowB c.vars.length a) ∧ wx = rfW w c A1 A2 A3 c1 c2 c3 20 t a n)
  case first =>
    by_cases hp : 0 ≤ a
    · have e1 : decide (0 ≤ a) = true := decide_eq_true hp
      go_wp2_with fail
      go_meet
      exact ⟨by unfold belowB; rw [e1]; rfl, rfl⟩
    · have e1 : decide (0 ≤ a) = false := decide_eq_false hp
      clear hp
      go_wp2_with fail
      go_meet
      exact ⟨by unfold belowB; rw [e1]; rfl, rfl⟩
  case rest =>
    obtain ⟨rfl, rfl⟩ := hcut
    go_upto_region 4 with (fail)
    go_cut [9] from 33 to 43 (fun s wx => s = .bool (belowB c.blocks.length a) ∧ wx = rfW w c A1 A2 A3 c1 c2 c3 20 t a n)
    case first =>
      by_cases hp : 0 ≤ a
      · have e1 : decide (0 ≤ a) = true := decide_eq_true hp
        go_wp2_with fail
        go_meet
        exact ⟨by unfold belowB; rw [e1]; rfl, rfl⟩
      · have e1 : decide (0 ≤ a) = false := decide_eq_false hp
        clear hp
        go_wp2_with fail
        go_meet
        exact ⟨by unfold belowB; rw [e1]; rfl, rfl⟩
    case rest =>
      obtain ⟨rfl, rfl⟩ := hcut
      have hbt := Hbt.out
      have hbB := HbB.out
      have hbN := HbN.out
      cases bt with
      | false =>
        go_wp2_with (first | (go_at_call 89; refine (rWhole_any _ _).mono ?_; rintro e w' ⟨rfl, rfl⟩; (try rw [hbW])) | (go_at_call 66; refine (rKind_any _ _).mono ?_; rintro e w' ⟨rfl, rfl⟩; (try rw [hbK])))
        go_ret
        exact ⟨ret_bool (by simp), (two_blocks w _ _).1⟩
      | true =>
        cases bB with
        | false =>
          go_wp2_with (first | (go_at_call 89; refine (rWhole_any _ _).mono ?_; rintro e w' ⟨rfl, rfl⟩; (try rw [hbW])) | (go_at_call 66; refine (rKind_any _ _).mono ?_; rintro e w' ⟨rfl, rfl⟩; (try rw [hbK])))
          go_ret
          exact ⟨ret_bool (by simp), (two_blocks w _ _).1⟩
        | true =>
          go_wp2_with (first | (go_at_call 89; refine (rWhole_any _ _).mono ?_; rintro e w' ⟨rfl, rfl⟩; (try rw [hbW])) | (go_at_call 66; refine (rKind_any _ _).mono ?_; rintro e w' ⟨rfl, rfl⟩; (try rw [hbK])))
          go_ret
          exact ⟨ret_bool (by simp), (two_blocks w _ _).1⟩
theorem rfit_22 (c : GCode) (t a n : Int) : fitsB c ⟨22, t, a, n⟩ = ((t == 0) && (a == 0) && (n == 0)) := by
  have e : fitsB c ⟨22, t, a, n⟩ = (chk c ⟨22, t, a, n⟩ (shapeStr 22)[0] t && chk c ⟨22, t, a, n⟩ (shapeStr 22)[1] a && chk c ⟨22, t, a, n⟩ (shapeStr 22)[2] n) := rfl
  rw [e]
  simp [chk, shapeStr, below_one]
  try (simp only [Bool.and_assoc])
set_option maxHeartbeats 2000000 in
set_option maxRecDepth 100000 in
theorem rIns_22 (c : GCode) (A1 A2 A3 : Option Addr) (c1 c2 c3 : Nat) (t a n : Int) (ht : 0 ≤ t ∧ t ≤ 255) (hn : (c.vars.length : Int) ≤ 9223372036854775807 ∧ (c.blocks.length : Int) ≤ 9223372036854775807 ∧ (c.ins.length : Int) ≤ 9223372036854775807) (w : World) :
    Calls Try.prog 67 #[.agg #[.string c.name, .slice A1 c.vars.length c1, .slice A2 c.blocks.length c2, .slice A3 c.ins.length c3], .agg #[.int .u8 22, .int .u8 t, .int .i64 a, .int .i64 n]] w fun e w' => e = .returned (.bool (fitsB c ⟨22, t, a, n⟩)) ∧ Below w.heap.size w w' := by
  obtain ⟨n1, n2, n3⟩ := hn
  obtain ⟨ht0, ht1⟩ := ht
  rw [rfit_22]
  obtain ⟨lo, hlo⟩ : ∃ lo, (rangeOf t).1 = lo := ⟨_, rfl⟩
  obtain ⟨hi, hhi⟩ : ∃ hi, (rangeOf t).2 = hi := ⟨_, rfl⟩
  obtain ⟨bt, hbt⟩ : ∃ b, (t == 0) = b := ⟨_, rfl⟩
  obtain ⟨bA, hbA⟩ : ∃ b, (a == 0) = b := ⟨_, rfl⟩
  obtain ⟨bN, hbN⟩ : ∃ b, (n == 0) = b := ⟨_, rfl⟩
  rw [hbt, hbA, hbN]
  have Hbt := Fact.mk hbt
  have HbA := Fact.mk hbA
  have HbN := Fact.mk hbN
  clear hbt hbA hbN
  go_enter Try.func67, Try.ntmps67
  go_wp2_with fail
  refine (rRange_any _ _).mono ?_
  rintro e w' ⟨rfl, rfl⟩
  rw [hlo, hhi]
  go_wp2_with fail
  refine (rKind_any _ _).mono ?_
  rintro e w' ⟨rfl, rfl⟩
  go_upto_region 3 with (fail)
  go_cut [8] from 22 to 32 (fun s wx => s = .bool (belowB c.vars.length a) ∧ wx = rfW w c A1 A2 A3 c1 c2 c3 22 t a n)
  case first =>
    by_cases hp : 0 ≤ a
    · have e1 : decide (0 ≤ a) = true := decide_eq_true hp
      go_wp2_with fail
      go_meet
      exact ⟨by unfold belowB; rw [e1]; rfl, rfl⟩
    · have e1 : decide (0 ≤ a) = false := decide_eq_false hp
      clear hp
      go_wp2_with fail
      go_meet
      exact ⟨by unfold belowB; rw [e1]; rfl, rfl⟩
  case rest =>
    obtain ⟨rfl, rfl⟩ := hcut
    go_upto_region 4 with (fail)
    go_cut [9] from 33 to 43 (fun s wx => s = .bool (belowB c.blocks.length a) ∧ wx = rfW w c A1 A2 A3 c1 c2 c3 22 t a n)
    case first =>
      by_cases hp : 0 ≤ a
      · have e1 : decide (0 ≤ a) = true := decide_eq_true hp
        go_wp2_with fail
        go_meet
        exact ⟨by unfold belowB; rw [e1]; rfl, rfl⟩
      · have e1 : decide (0 ≤ a) = false := decide_eq_false hp
        clear hp
        go_wp2_with fail
        go_meet
        exact ⟨by unfold belowB; rw [e1]; rfl, rfl⟩
    case rest =>
      obtain ⟨rfl, rfl⟩ := hcut
      have hbt := Hbt.out
      have hbA := HbA.out
      have hbN := HbN.out
      cases bt with
      | false =>
        go_wp2_with (first | (go_at_call 89; refine (rWhole_any _ _).mono ?_; rintro e w' ⟨rfl, rfl⟩; (try rw [hbW])) | (go_at_call 66; refine (rKind_any _ _).mono ?_; rintro e w' ⟨rfl, rfl⟩; (try rw [hbK])))
        go_ret
        exact ⟨ret_bool (by simp), (two_blocks w _ _).1⟩
      | true =>
        cases bA with
        | false =>
          go_wp2_with (first | (go_at_call 89; refine (rWhole_any _ _).mono ?_; rintro e w' ⟨rfl, rfl⟩; (try rw [hbW])) | (go_at_call 66; refine (rKind_any _ _).mono ?_; rintro e w' ⟨rfl, rfl⟩; (try rw [hbK])))
          go_ret
          exact ⟨ret_bool (by simp), (two_blocks w _ _).1⟩
        | true =>
          go_wp2_with (first | (go_at_call 89; refine (rWhole_any _ _).mono ?_; rintro e w' ⟨rfl, rfl⟩; (try rw [hbW])) | (go_at_call 66; refine (rKind_any _ _).mono ?_; rintro e w' ⟨rfl, rfl⟩; (try rw [hbK])))
          go_ret
          exact ⟨ret_bool (by simp), (two_blocks w _ _).1⟩
end Go.Proofs.Ythiapebodpkamaa

