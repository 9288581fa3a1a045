/- A run keeps a block right; a right block's outputs are in their ranges. Plain Lean. -/
import Derived.Test.YtjanofopmmndoaaPulseP
import Derived.Test.YtjanofopmmndoaaCountP
namespace Go.Proofs.Ytjanofopmmndoaa
open Go.RowKit
theorem rightBlk_use {b : GBlock} (h : rightBlk b = true) : useB b = true := by
  simp only [rightBlk, Bool.and_eq_true] at h
  exact h.2
theorem right_tm_inv {b : GBlock} (h : rightBlk b = true) (hk : b.kind = 1 ∨ b.kind = 2 ∨ b.kind = 3) : ∃ w0 g f e q, b = tmB b.kind w0 g f e q ∧ TmOk b.kind g f e := by
  obtain ⟨q1, q2, q3, q4, q5, q6⟩ := rightBlk_bnd h
  have hu := rightBlk_use h
  obtain ⟨kind, w0, w1, ran, going, frm, et, cv, q, p⟩ := b
  unfold useB at hu
  rw [if_pos hk] at hu
  simp only [Bool.and_eq_true, Bool.not_eq_true', Bool.or_eq_true, decide_eq_true_eq] at hu
  obtain ⟨⟨⟨⟨rfl, rfl⟩, hg⟩, rfl⟩, rfl⟩ := hu
  exact ⟨w0, going, frm, et, q, rfl, ⟨hk, q1, q2, q3, q4, hg⟩⟩
theorem tm_step {k : Int} {was g q : Bool} {f e : Int} (h : TmOk k g f e) (r x : Bool) {p t : Int} (p1 : 0 ≤ p) (p2 : p ≤ 4294967295) (t1 : 0 ≤ t) (t2 : t ≤ 1125899906842624) : ∃ g' f' e' q', timerB (tmB k was g f e q) r x t p = tmB k was g' f' e' q' ∧ TmOk k g' f' e' := by
  obtain ⟨hk, f1, f2, e1, e2, hg⟩ := h
  rcases hk with rfl | rfl | rfl
  · cases x
    · exact ⟨_, _, _, _, on_off was g q r f e p t, .inl rfl, by omega, by omega, by omega, by omega, .inr rfl⟩
    · refine ⟨_, _, _, _, on_on was g q r f e p t, .inl rfl, ?_, ?_, by omega, by omega, .inl rfl⟩
      · split <;> omega
      · split <;> omega
  · cases x
    · cases q
      · exact ⟨_, _, _, _, off_idle was g r f e p t, .inr (.inl rfl), f1, f2, e1, e2, hg⟩
      · by_cases ho : p ≤ max (t - (if g = true then f else t)) 0
        · exact ⟨_, _, _, _, off_over was g r f e ho, .inr (.inl rfl), by omega, by omega, by omega, by omega, .inr rfl⟩
        · refine ⟨_, _, _, _, off_goes was g r f e ho, .inr (.inl rfl), ?_, ?_, by omega, by omega, .inl rfl⟩
          · split <;> omega
          · split <;> omega
    · exact ⟨_, _, _, _, off_on was g q r f e p t, .inr (.inl rfl), by omega, by omega, by omega, by omega, .inr rfl⟩
  · -- a pulse
    have hE : ∀ g f e q, (0 : Int) ≤ f → f ≤ 1125899906842624 → (0 : Int) ≤ e → e ≤ 1125899906842624 → (g = true ∨ f = 0) → ∃ g' f' e' q', pulseE (tmB 3 was g f e q) x = tmB 3 was g' f' e' q' ∧ TmOk 3 g' f' e' := by
      intro g f e q h1 h2 h3 h4 h5
      unfold pulseE
      split
      · exact ⟨g, f, 0, q, rfl, .inr (.inr rfl), h1, h2, by omega, by omega, h5⟩
      · exact ⟨g, f, e, q, rfl, .inr (.inr rfl), h1, h2, h3, h4, h5⟩
    have hC : ∀ g f e q, (0 : Int) ≤ f → f ≤ 1125899906842624 → (0 : Int) ≤ e → e ≤ 1125899906842624 → (g = true ∨ f = 0) → ∃ g' f' e' q', pulseC (tmB 3 was g f e q) t p = tmB 3 was g' f' e' q' ∧ (0 : Int) ≤ f' ∧ f' ≤ 1125899906842624 ∧ (0 : Int) ≤ e' ∧ e' ≤ 1125899906842624 ∧ (g' = true ∨ f' = 0) := by
      intro g f e q h1 h2 h3 h4 h5
      cases g
      · exact ⟨false, f, e, q, rfl, h1, h2, h3, h4, h5⟩
      · have e3 : pulseC (tmB 3 was true f e q) t p = runOn (tmB 3 was true f e q) t p := rfl
        rw [e3]
        unfold runOn
        split
        · exact ⟨false, 0, min (max (t - f) 0) p, false, rfl, by omega, by omega, by omega, by omega, .inr rfl⟩
        · exact ⟨true, f, min (max (t - f) 0) p, q, rfl, h1, h2, by omega, by omega, .inl rfl⟩
    have e1' : timerB (tmB 3 was g f e q) r x t p = pulseE (pulseC (pulseA (tmB 3 was g f e q) r t) t p) x := rfl
    rw [e1']
    have hA : ∃ g' f' q', pulseA (tmB 3 was g f e q) r t = tmB 3 was g' f' e q' ∧ (0 : Int) ≤ f' ∧ f' ≤ 1125899906842624 ∧ (g' = true ∨ f' = 0) := by
      unfold pulseA
      split
      · exact ⟨true, t, true, rfl, t1, t2, .inl rfl⟩
      · exact ⟨g, f, q, rfl, f1, f2, hg⟩
    obtain ⟨ga, fa, qa, ha, a1, a2, a3⟩ := hA
    rw [ha]
    obtain ⟨gc, fc, ec, qc, hc, c1, c2, c3, c4, c5⟩ := hC ga fa e qa a1 a2 e1 e2 a3
    rw [hc]
    exact hE gc fc ec qc c1 c2 c3 c4 c5
theorem inR_dint {x : Int} (h : inR 4 x = true) : -2147483648 ≤ x ∧ x ≤ 2147483647 := by
  simp only [inR, Bool.and_eq_true, decide_eq_true_eq] at h
  exact h
theorem inR_udint {x : Int} (h : inR 5 x = true) : 0 ≤ x ∧ x ≤ 4294967295 := by
  simp only [inR, Bool.and_eq_true, decide_eq_true_eq] at h
  exact h
theorem ok2 {t u : Int} {l : List Int} (h : okIns [t, u] l = true) : ∃ a b, l = [a, b] ∧ inR t a = true ∧ inR u b = true := by
  match l, okIns_len h, h with
  | [a, b], _, h =>
    simp only [okIns, Bool.and_true, Bool.and_eq_true] at h
    exact ⟨a, b, rfl, h.1, h.2⟩
theorem ok3 {t u v : Int} {l : List Int} (h : okIns [t, u, v] l = true) : ∃ a b c, l = [a, b, c] ∧ inR v c = true := by
  match l, okIns_len h, h with
  | [a, b, c], _, h =>
    simp only [okIns, Bool.and_true, Bool.and_eq_true] at h
    exact ⟨a, b, c, rfl, h.2.2⟩
theorem ok5 {t u v x y : Int} {l : List Int} (h : okIns [t, u, v, x, y] l = true) : ∃ a b c d e, l = [a, b, c, d, e] ∧ inR y e = true := by
  match l, okIns_len h, h with
  | [a, b, c, d, e], _, h =>
    simp only [okIns, Bool.and_true, Bool.and_eq_true] at h
    exact ⟨a, b, c, d, e, rfl, h.2.2.2.2⟩
theorem bnd_of {b : GBlock} (h : 0 ≤ b.frm ∧ b.frm ≤ 1125899906842624 ∧ 0 ≤ b.et ∧ b.et ≤ 1125899906842624 ∧ -2147483648 ≤ b.cv ∧ b.cv ≤ 2147483647) : bndB b = true := by
  obtain ⟨h1, h2, h3, h4, h5, h6⟩ := h
  simp [bndB, h1, h2, h3, h4, h5, h6]
theorem right_of {b : GBlock} (h : 0 ≤ b.frm ∧ b.frm ≤ 1125899906842624 ∧ 0 ≤ b.et ∧ b.et ≤ 1125899906842624 ∧ -2147483648 ≤ b.cv ∧ b.cv ≤ 2147483647) (hu : useB b = true) : rightBlk b = true := by
  rw [rightBlk, bnd_of h, hu]; rfl
theorem counter_in {b : GBlock} {pv : Int} (r : Bool) (ins : List Int) (h1 : -2147483648 ≤ b.cv) (h2 : b.cv ≤ 2147483647) (p1 : -2147483648 ≤ pv) (p2 : pv ≤ 2147483647) : -2147483648 ≤ (counterB b r ins pv).cv ∧ (counterB b r ins pv).cv ≤ 2147483647 := cntC_in h1 h2 p1 p2 _ _ _ _
theorem cvD_in {cv : Int} (h1 : -2147483648 ≤ cv) (h2 : cv ≤ 2147483647) (z r : Bool) (s : Nat) : -2147483648 ≤ cvD cv z r s ∧ cvD cv z r s ≤ 2147483647 := by
  unfold cvD
  repeat' split
  all_goals omega
theorem right_step {b : GBlock} {ins : List Int} {now : Int} (h : mayB b ins now = 0) : rightBlk (stepB b ins now) = true ∧ (stepB b ins now).kind = b.kind := by
  obtain ⟨hR, n1, n2, hok⟩ := mayB_ok h
  obtain ⟨q1, q2, q3, q4, q5, q6⟩ := rightBlk_bnd hR
  have hu := rightBlk_use hR
  clear h
  by_cases hk : b.kind = 1 ∨ b.kind = 2 ∨ b.kind = 3
  · have hp : pinsIn b.kind = [1, 5] := by rcases hk with h | h | h <;> rw [h] <;> rfl
    rw [hp] at hok
    obtain ⟨x, pt, rfl, hx, hpt⟩ := ok2 hok
    obtain ⟨p1, p2⟩ := inR_udint hpt
    obtain ⟨w0, g, f, e, q, hb, hT⟩ := right_tm_inv hR hk
    obtain ⟨g', f', e', q', hs, hT'⟩ := tm_step (was := w0) (q := q) hT (onB [x, pt] 0 && !b.w0) (onB [x, pt] 0) p1 p2 n1 n2
    rw [← hb] at hs
    have e1 : stepB b [x, pt] now = { timerB b (onB [x, pt] 0 && !b.w0) (onB [x, pt] 0) now pt with w0 := onB [x, pt] 0 } := if_pos hk
    rw [e1, hs]
    exact ⟨right_tm (was := onB [x, pt] 0) (q := q') hT', rfl⟩
  · rcases kind_cases hR with hk1 | hk1 | hk1 | hk1 | hk1 | hk1 | hk1 | hk1 | hk1 | hk1 | hk1
    · exact absurd (.inl hk1) hk
    · exact absurd (.inr (.inl hk1)) hk
    · exact absurd (.inr (.inr hk1)) hk
    all_goals
      rw [hk1] at hok
      obtain ⟨kind, w0, w1, ran, going, frm, et, cv, q, p⟩ := b
      obtain rfl : kind = _ := hk1
      clear hk
    · obtain ⟨a, c, d, rfl, hd⟩ := ok3 hok
      obtain ⟨d1, d2⟩ := inR_dint hd
      have e : stepB ⟨4, w0, w1, ran, going, frm, et, cv, q, p⟩ [a, c, d] now = { counterB ⟨4, w0, w1, ran, going, frm, et, cv, q, p⟩ (onB [a, c, d] 0 && !w0) [a, c, d] d with w0 := onB [a, c, d] 0 } := rfl
      rw [e]
      have hc := counter_in (b := ⟨4, w0, w1, ran, going, frm, et, cv, q, p⟩) (onB [a, c, d] 0 && !w0) [a, c, d] q5 q6 d1 d2
      exact ⟨right_of ⟨q1, q2, q3, q4, hc.1, hc.2⟩ hu, rfl⟩
    · obtain ⟨a, c, d, rfl, hd⟩ := ok3 hok
      obtain ⟨d1, d2⟩ := inR_dint hd
      have e : stepB ⟨5, w0, w1, ran, going, frm, et, cv, q, p⟩ [a, c, d] now = { counterB ⟨5, w0, w1, ran, going, frm, et, cv, q, p⟩ (onB [a, c, d] 0 && !w0) [a, c, d] d with w0 := onB [a, c, d] 0 } := rfl
      rw [e]
      have hc := counter_in (b := ⟨5, w0, w1, ran, going, frm, et, cv, q, p⟩) (onB [a, c, d] 0 && !w0) [a, c, d] q5 q6 d1 d2
      exact ⟨right_of ⟨q1, q2, q3, q4, hc.1, hc.2⟩ hu, rfl⟩
    · obtain ⟨a, c, d, u, v, rfl, hv⟩ := ok5 hok
      obtain ⟨d1, d2⟩ := inR_dint hv
      have e : stepB ⟨6, w0, w1, ran, going, frm, et, cv, q, p⟩ [a, c, d, u, v] now = { counterB ⟨6, w0, w1, ran, going, frm, et, cv, q, p⟩ (onB [a, c, d, u, v] 0 && !w0) [a, c, d, u, v] v with w0 := onB [a, c, d, u, v] 0 } := rfl
      rw [e]
      have hc := counter_in (b := ⟨6, w0, w1, ran, going, frm, et, cv, q, p⟩) (onB [a, c, d, u, v] 0 && !w0) [a, c, d, u, v] q5 q6 d1 d2
      exact ⟨right_of ⟨q1, q2, q3, q4, hc.1, hc.2⟩ hu, rfl⟩
    · exact ⟨right_of ⟨q1, q2, q3, q4, q5, q6⟩ hu, rfl⟩
    · exact ⟨right_of ⟨q1, q2, q3, q4, q5, q6⟩ hu, rfl⟩
    · exact ⟨right_of ⟨q1, q2, q3, q4, q5, q6⟩ hu, rfl⟩
    · exact ⟨right_of ⟨q1, q2, q3, q4, q5, q6⟩ hu, rfl⟩
    · exact ⟨right_of ⟨q1, q2, q3, q4, (cvD_in q5 q6 _ _ _).1, (cvD_in q5 q6 _ _ _).2⟩ hu, rfl⟩
theorem right_run {b : GBlock} (ins : List Int) (now : Int) (h : rightBlk b = true) : rightBlk (runB b ins now).1 = true ∧ (runB b ins now).1.kind = b.kind := by
  unfold runB
  by_cases hm : mayB b ins now = 0
  · rw [if_pos hm]; exact right_step hm
  · rw [if_neg hm]; exact ⟨h, rfl⟩
theorem run_same {b : GBlock} {ins : List Int} {now : Int} (h : (runB b ins now).2 ≠ 0) : (runB b ins now).1 = b := by
  unfold runB at h ⊢
  by_cases hm : mayB b ins now = 0
  · rw [if_pos hm] at h; exact absurd rfl h
  · rw [if_neg hm]
theorem run_wrong {b : GBlock} (ins : List Int) (now : Int) (h : rightBlk b = false) : runB b ins now = (b, 160) := by
  have hm : mayB b ins now = 160 := by simp [mayB, h]
  unfold runB
  rw [hm]; rfl
theorem inR_truth (x : Bool) : inR 1 (truthI x) = true := by cases x <;> rfl
theorem outs_in {b : GBlock} (h : rightBlk b = true) : okIns (pinsOut b.kind) (outsB b) = true := by
  obtain ⟨q1, q2, q3, q4, q5, q6⟩ := rightBlk_bnd h
  have hcv : inR 4 b.cv = true := by
    have h1 : decide ((rangeOf 4).1 ≤ b.cv) = true := decide_eq_true q5
    have h2 : decide (b.cv ≤ (rangeOf 4).2) = true := decide_eq_true q6
    unfold inR
    rw [h1, h2]; rfl
  have het : inR 5 (min b.et 4294967295) = true := by
    have h1 : decide ((rangeOf 5).1 ≤ min b.et 4294967295) = true := decide_eq_true (show 0 ≤ min b.et 4294967295 by omega)
    have h2 : decide (min b.et 4294967295 ≤ (rangeOf 5).2) = true := decide_eq_true (show min b.et 4294967295 ≤ 4294967295 by omega)
    unfold inR
    rw [h1, h2]; rfl
  have e : outsB b = outsK b := if_pos h
  rw [e]
  have hq := inR_truth b.q
  have hp := inR_truth b.p
  rcases kind_cases h with hk | hk | hk | hk | hk | hk | hk | hk | hk | hk | hk
  all_goals
    unfold outsK
    rw [hk]
    simp [show pinsOut 1 = [1, 5] from rfl, show pinsOut 2 = [1, 5] from rfl, show pinsOut 3 = [1, 5] from rfl, show pinsOut 4 = [1, 4] from rfl, show pinsOut 5 = [1, 4] from rfl, show pinsOut 6 = [1, 1, 4] from rfl, show pinsOut 7 = [1] from rfl, show pinsOut 8 = [1] from rfl, show pinsOut 9 = [1] from rfl, show pinsOut 10 = [1] from rfl, show pinsOut 11 = [4, 1] from rfl, okIns, hq, hp, hcv, het]
end Go.Proofs.Ytjanofopmmndoaa
