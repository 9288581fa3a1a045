/- The contract of awake: the chapter's examples come out. -/
import Derived.Test.YthiapebodpkamaaBytesC
import Derived.Test.YthiapebodpkamaaSame
import Derived.Outline
namespace Go.Proofs.Ythiapebodpkamaa
open Go.RowKit
def egC : GCode := ⟨⟨#[112]⟩, [], [], [⟨22, 0, 0, 0⟩]⟩
theorem egC_right : rightB egC = true := by kernel_rfl
theorem egC_bytes : codeB egC = [1, 112, 0, 0, 1, 22, 0, 0, 0] := by kernel_rfl
theorem egC_str : strOfNums [1, 112, 0, 0, 1, 22, 0, 0, 0] = ⟨#[1, 112, 0, 0, 1, 22, 0, 0, 0]⟩ := by rfl
theorem egW1 : wrapOf 2 200 = -56 := by kernel_rfl
theorem egW2 : wrapOf 5 (-1) = 4294967295 := by kernel_rfl
theorem egW3 : wrapOf 1 7 = 1 := by kernel_rfl
theorem egP1 : decide (pinsIn 6 = [1, 1, 1, 1, 4]) = true := by kernel_rfl
theorem egP2 : decide (pinsOut 6 = [1, 1, 4]) = true := by kernel_rfl
theorem egC_wf : egC.Wf := by
  refine ⟨fun v h => by simp [egC] at h, fun v h => by simp [egC] at h, fun i h => ?_⟩
  simp only [egC, List.mem_singleton] at h
  subst h
  exact ⟨by simp, by simp, by simp, by simp⟩
theorem egC_rd (w : World) : CodeRd (w.alloc (.cells #[.int .u8 22, .int .u8 0, .int .i64 0, .int .i64 0] 38)) egC (.slice none 0 0) (.slice none 0 0) (.slice (some ⟨w.heap.size, 0, none⟩) 1 1) :=
  ⟨rd_nil _ _ _, rd_nil _ _ _, rd_new encIns 4 encIns_len w [⟨22, 0, 0, 0⟩] 38 (by simp)⟩
set_option maxHeartbeats 400000 in
set_option maxRecDepth 100000 in
theorem awake_any (w : World) : Calls Try.prog 16 #[] w fun e w' => e = .returned (.bool true) ∧ Below w.heap.size w w' := by
  go_enter Try.func16, Try.ntmps16
  go_wp2_with fail
  refine (bytes_any egC egC_wf (by simp [egC]) _ _ _ _ (egC_rd w) egC_right).mono ?_
  rintro e w1 ⟨v1, rfl, ho1, hb1⟩
  obtain ⟨e1, e2, e3⟩ := one_block w (.cells #[.int .u8 22, .int .u8 0, .int .i64 0, .int .i64 0] 38)
  rw [egC_bytes] at ho1
  obtain ⟨A1, n1, c1, rfl⟩ := ho1.slice
  have hB1 := Fact.mk (e1.trans (hb1.mono e1.size))
  have HO1 := Fact.mk ho1
  clear ho1 hb1 e1 e2 e3
  go_wp2_with fail
  refine (pins_any _ _).mono ?_
  rintro e w2 ⟨v2, v3, rfl, ho2, ho3, hb2⟩
  obtain ⟨A2, n2, c2, rfl⟩ := ho2.slice
  obtain ⟨A3, n3, c3, rfl⟩ := ho3.slice
  have hcv := conv_back (P := Try.prog) ((HO1.out.below hb2).rd oneU8_len) 62 9 5 Try.underlying62 Try.underlying5 Try.underlying9
  rw [egC_str] at hcv
  have HO2 := Fact.mk ho2
  have HO3 := Fact.mk ho3
  have HB2 := Fact.mk (hB1.out.trans (hb2.mono hB1.out.size))
  clear ho2 ho3 hb2
  go_wp2_with (first | (go_at_call 15; refine (wrap_any _ _ _).mono ?_; rintro e w' ⟨rfl, rfl⟩; simp only [egW1, egW2, egW3]))
  obtain ⟨x1, x2, x3⟩ := one_block w2 (.cells #[.int .u8 1, .int .u8 1, .int .u8 1, .int .u8 1, .int .u8 4] 22)
  refine (same_any _ _ _ (pinsIn 6) [1, 1, 1, 1, 4] ((HO2.out.below x1).rd oneU8_len) (rd_new oneU8 1 oneU8_len w2 [1, 1, 1, 1, 4] 22 (by simp))).mono ?_
  rintro e w3 ⟨rfl, hb3⟩
  rw [egP1]
  have HB3 := Fact.mk (HB2.out.trans ((x1.trans (hb3.mono x1.size)).mono HB2.out.size))
  have ho4 := (HO3.out.below x1).below hb3
  have HO4 := Fact.mk ho4
  clear ho4 hb3 x1 x2 x3
  go_wp2_with fail
  obtain ⟨x1, x2, x3⟩ := one_block w3 (.cells #[.int .u8 1, .int .u8 1, .int .u8 4] 22)
  refine (same_any _ _ _ (pinsOut 6) [1, 1, 4] ((HO4.out.below x1).rd oneU8_len) (rd_new oneU8 1 oneU8_len w3 [1, 1, 4] 22 (by simp))).mono ?_
  rintro e w4 ⟨rfl, hb4⟩
  rw [egP2]
  have HB4 := Fact.mk (HB3.out.trans ((x1.trans (hb4.mono x1.size)).mono HB3.out.size))
  clear hb4 x1 x2 x3
  go_wp2_with fail
  go_ret
  exact ⟨rfl, HB4.out⟩
end Go.Proofs.Ythiapebodpkamaa

