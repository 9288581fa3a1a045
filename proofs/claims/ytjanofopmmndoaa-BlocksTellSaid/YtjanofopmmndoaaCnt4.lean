/- The runner's counter, kind 4. -/
import Derived.Test.YtjanofopmmndoaaCnt
namespace Go.Proofs.Ytjanofopmmndoaa
open Go.RowKit
set_option maxRecDepth 100000 in
set_option maxHeartbeats 8000000 in
theorem counter_4 (w : World) (R B : Nat) (ins : List Int) (now : Int) (rise fall : Bool) (b : GBlock) (pv : Int) (h : RunSt w R B ins now rise fall b) (hk : b.kind = 4) (hi : ins.length = 3) (hp : ins.getD 2 0 = pv) (v1 : -2147483648 ≤ b.cv) (v2 : b.cv ≤ 2147483647) :
    Calls Try.prog 30 #[.pointer (some ⟨R, 0, none⟩)] w (CntPost w R B ins now rise fall (counterB b rise ins pv)) := by
  have hmf : ∀ (fn : Fn) (first cap : Array Value) (w : World), (Instr.makeFunc fn first cap).run Try.prog w = .ok (.func fn first cap) w := fun _ _ _ _ => rfl
  have H := Fact.mk h
  obtain ⟨⟨vs, h1, h2, h3⟩, h4, h5⟩ := h
  obtain ⟨k, off, c, rfl, hc⟩ := h1.at64 2 (by omega)
  rw [hp] at hc
  have lt1 : k < w.heap.size := World.block_lt_of_cell? w _ hc
  have lt2 : R < w.heap.size := (Array.getElem?_eq_some_iff.1 h3).1
  have lt3 : B < w.heap.size := (Array.getElem?_eq_some_iff.1 h4).1
  obtain ⟨c0, c1, c2, c3, c4, -, -, -, -, -⟩ := row5 h3
  obtain ⟨d0, d1, d2, d3, d4, d5, d6, d7, d8, d9, g0, g1, g2, g3, g4, g5, g6, g7, g8, g9⟩ := row10 h4
  rw [hk] at d0
  rw [hi] at c1
  have HK := Fact.mk hk
  clear h1 h2 h3 h4 hp hk
  cases hon1 : onB ins 1 with
  | true =>
    have ON1 := on_lit (R := R) (B := B) (now := now) (rise := rise) (fall := fall) (b := b) 1 (by omega) true hon1
    have HON1 := Fact.mk hon1
    clear hon1
    cases rise with
    | true =>
      go_enter Try.func30, Try.ntmps30
      go_wp2_with fail
      go_quiet (fail)
      go_wp2_with fail
      go_quiet ((go_at_call 31; first | exact quiet_at (ON1 _ ((H.out.alloc _).drewN _))))
      go_wp2_with fail
      go_quiet (fail)
      go_wp2_with fail
      go_end0
      exact cnt_end ((H.out.alloc _).drewN _) (grown_trans (World.grownBy_alloc _ _ _) (grown_drewN _ _ _)) (grown_trans (grown_set _ B 7 _) (grown_trans (grown_drewN _ _ _) (grown_set _ B 8 _))) (b' := { b with cv := 0, q := decide (pv ≤ 0) }) (set10_8 (set10_7 ((H.out.alloc _).drewN _).blk)) (by unfold counterB zeroC loadC upC downC cntC qC; simp [HK.out, HON1.out])
    | false =>
      go_enter Try.func30, Try.ntmps30
      go_wp2_with fail
      go_quiet (fail)
      go_wp2_with fail
      go_quiet ((go_at_call 31; first | exact quiet_at (ON1 _ ((H.out.alloc _).drewN _))))
      go_wp2_with fail
      go_quiet (fail)
      go_wp2_with fail
      go_end0
      exact cnt_end ((H.out.alloc _).drewN _) (grown_trans (World.grownBy_alloc _ _ _) (grown_drewN _ _ _)) (grown_trans (grown_set _ B 7 _) (grown_trans (grown_drewN _ _ _) (grown_set _ B 8 _))) (b' := { b with cv := 0, q := decide (pv ≤ 0) }) (set10_8 (set10_7 ((H.out.alloc _).drewN _).blk)) (by unfold counterB zeroC loadC upC downC cntC qC; simp [HK.out, HON1.out])
  | false =>
    have ON1 := on_lit (R := R) (B := B) (now := now) (rise := rise) (fall := fall) (b := b) 1 (by omega) false hon1
    have HON1 := Fact.mk hon1
    clear hon1
    cases rise with
    | true =>
      go_enter Try.func30, Try.ntmps30
      go_wp2_with fail
      go_quiet (fail)
      go_wp2_with fail
      go_quiet ((go_at_call 31; first | exact quiet_at (ON1 _ ((H.out.alloc _).drewN _))))
      go_wp2_with fail
      refine (step_any _ w.heap.size B b 1 (var_at _ _ _ _) (((H.out.alloc _).drewN _).blk) v1 v2 (by omega) (by omega)).mono ?_
      rintro e w2 ⟨rfl, gr, hb2⟩
      obtain ⟨d0, d1, d2, d3, d4, d5, d6, d7, d8, d9, g0, g1, g2, g3, g4, g5, g6, g7, g8, g9⟩ := row10 hb2
      have x2 := var_kept (Nat.ne_of_gt lt3) gr
      have GR := Fact.mk gr
      have HB2 := Fact.mk hb2
      clear gr hb2
      rw [HK.out] at d0
      clear hmf
      go_wp2_with fail
      go_quiet (fail)
      go_wp2_with fail
      go_end0
      exact cnt_end ((H.out.alloc _).drewN _) (grown_trans (World.grownBy_alloc _ _ _) (grown_drewN _ _ _)) (grown_trans GR.out (grown_trans (grown_drewN _ _ _) (grown_set _ B 8 _))) (b' := { b with cv := stepC b.cv 1, q := decide (pv ≤ stepC b.cv 1) }) (set10_8 HB2.out) (by unfold counterB zeroC loadC upC downC cntC qC; simp [HK.out, HON1.out])
    | false =>
      go_enter Try.func30, Try.ntmps30
      go_wp2_with fail
      go_quiet (fail)
      go_wp2_with fail
      go_quiet ((go_at_call 31; first | exact quiet_at (ON1 _ ((H.out.alloc _).drewN _))))
      go_wp2_with fail
      go_quiet (fail)
      go_wp2_with fail
      go_end0
      exact cnt_end ((H.out.alloc _).drewN _) (grown_trans (World.grownBy_alloc _ _ _) (grown_drewN _ _ _)) (grown_set _ B 8 _) (b' := { b with q := decide (pv ≤ b.cv) }) (set10_8 ((H.out.alloc _).drewN _).blk) (by unfold counterB zeroC loadC upC downC cntC qC; simp [HK.out, HON1.out])
end Go.Proofs.Ytjanofopmmndoaa

