/- Where no place holds. -/
import Derived.Test.YtiogpainajokkaaBaseM
import Derived.Test.YtiogpainajokkaaScP
namespace Go.Proofs.Ytiogpainajokkaa
theorem idx_of_none {p : Nat → Bool} {n : Nat} (h : ∀ i, i < n → p i = false) : idxFrom p n 0 = -1 := by
  have g : ∀ m j, (∀ i, j ≤ i → i < j + m → p i = false) → idxFrom p m j = -1 := by
    intro m
    induction m with
    | zero => intro j _; rfl
    | succ m ih =>
      intro j hj
      rw [idxFrom, if_neg (by rw [hj j (Nat.le_refl _) (by omega)]; exact Bool.false_ne_true)]
      exact ih (j + 1) fun i h1 h2 => hj i (by omega) (by omega)
  exact g n 0 fun i _ h2 => h i (by omega)
end Go.Proofs.Ytiogpainajokkaa

namespace Go.Proofs.Ytiogpainajokkaa
open Go.RowKit
def zn (i : GIns) : GIns := if i.op = 1 then ⟨i.op, i.t, i.a, 0⟩ else i
def zeroN (c : GCode) : GCode := ⟨c.name, c.vars, c.blocks, c.ins.map zn⟩
theorem zn_len (c : GCode) : (zeroN c).ins.length = c.ins.length := List.length_map zn
theorem zn_op (i : GIns) : (zn i).op = i.op := by unfold zn; split <;> rfl
theorem zn_t (i : GIns) : (zn i).t = i.t := by unfold zn; split <;> rfl
theorem zn_a (i : GIns) : (zn i).a = i.a := by unfold zn; split <;> rfl
theorem zn_chk (c : GCode) (i : GIns) (ch : UInt8) (n : Int) : chk (zeroN c) i ch n = chk c i ch n := by
  unfold chk
  simp only [zn_len]
  rfl
theorem zn_fits {c : GCode} {i : GIns} (h : fitsB (zeroN c) (zn i) = true) (hn : i.op = 1 → inR i.t i.n = true) : fitsB c i = true := by
  by_cases ho : i.op = 1
  · have e : ∀ (d : GCode) (j : GIns), j.op = 1 → fitsB d j = (chk d j 116 j.t && chk d j 45 j.a && chk d j 110 j.n) := fun d j hj => by unfold fitsB; rw [hj]; rfl
    rw [e _ _ (by rw [zn_op]; exact ho)] at h
    rw [e _ _ ho]
    simp only [Bool.and_eq_true, zn_t, zn_a] at h ⊢
    exact ⟨⟨h.1.1, h.1.2⟩, hn ho⟩
  · rw [show zn i = i from if_neg ho] at h
    unfold fitsB at h ⊢
    simp only [zn_chk] at h
    exact h
theorem zn_eff (c : GCode) (i : GIns) (s : List Int) : effB (zeroN c) (zn i) s = effB c i s := by
  by_cases ho : i.op = 1
  · unfold effB
    rw [zn_op, zn_t, if_pos ho, if_pos ho]
  · rw [show zn i = i from if_neg ho]
    rfl
theorem zn_one (i : GIns) (s : GSpot) (k : Nat) (e : List Int × List Int) (ss : List GSpot) : oneIns (zn i) s k e ss = oneIns i s k e ss := by
  unfold oneIns jumpsB staysB
  rw [zn_op, zn_a]
theorem zn_step (c : GCode) (ss : List GSpot) (k : Nat) : stepAt (zeroN c) ss k = stepAt c ss k := by
  unfold stepAt oneB
  have e : (zeroN c).ins[k]? = c.ins[k]?.map zn := List.getElem?_map
  rw [e]
  cases c.ins[k]? with
  | none => rfl
  | some i => simp only [Option.map_some, zn_one, zn_eff]
theorem zn_walk (c : GCode) : ∀ (f k : Nat) (ss : List GSpot), walkB (zeroN c) f k ss = walkB c f k ss := by
  intro f
  induction f with
  | zero => intro k ss; rfl
  | succ f ih => intro k ss; simp only [walkB, zn_step, ih]
theorem zn_right {c : GCode} (h : rightB (zeroN c) = true) (hn : ∀ i ∈ c.ins, i.op = 1 → inR i.t i.n = true) : rightB c = true := by
  have hall := (right_parts h).2.2.2.2.2.2.2
  have hi : inssBad c = false := by
    unfold inssBad
    rw [idx_of_none, decide_eq_false (by decide)]
    intro j hj
    unfold insBad
    rw [List.getElem?_eq_getElem hj]
    have h1 := hall j (by rw [zn_len]; exact hj)
    have e : (zeroN c).ins[j]'(by rw [zn_len]; exact hj) = zn c.ins[j] := List.getElem_map zn
    rw [e] at h1
    have := zn_fits h1 (hn _ (List.getElem_mem hj))
    simp only [this, Bool.not_true]
  have e : varsBad (zeroN c) = varsBad c := rfl
  have e2 : blocksBad (zeroN c) = blocksBad c := rfl
  unfold rightB at h ⊢
  rw [e, e2, zn_len] at h
  rw [hi]
  simp only [Bool.and_eq_true, Bool.not_eq_true'] at h ⊢
  exact ⟨h.1, trivial⟩
theorem zn_spots {c : GCode} (h : rightB (zeroN c) = true) (hn : ∀ i ∈ c.ins, i.op = 1 → inR i.t i.n = true) : spotsB c = spotsB (zeroN c) := by
  unfold spotsB
  rw [if_pos h, if_pos (zn_right h hn), zn_len, zn_walk]
theorem zn_check {c : GCode} (h : rightB (zeroN c) = true) (hn : ∀ i ∈ c.ins, i.op = 1 → inR i.t i.n = true) (b : Int) : checkB c b = checkB (zeroN c) b := by
  unfold checkB stepsB
  rw [zn_spots h hn, zn_len]
end Go.Proofs.Ytiogpainajokkaa

namespace Go.Proofs.Ytiogpainajokkaa
open Go.RowKit
def sgnPg (k x y o : Int) : GCode := ⟨⟨#[112]⟩, [⟨⟨#[97]⟩, 2, k, 0⟩], [], [⟨1, k, 0, x⟩, ⟨1, k, 0, y⟩, ⟨o, k, 0, 0⟩, ⟨3, 0, 0, 0⟩]⟩
theorem sgn_zero {k x y o : Int} (h : o ≠ 1) : zeroN (sgnPg k x y o) = sgnPg k 0 0 o := by simp [zeroN, zn, sgnPg, h]
theorem sgn_closed {k o : Int} (hk : k = 2 ∨ k = 3 ∨ k = 4 ∨ k = 5) (ho : o = 4 ∨ o = 5 ∨ o = 6 ∨ o = 7 ∨ o = 8 ∨ o = 9 ∨ o = 10 ∨ o = 11) :
    rightB (sgnPg k 0 0 o) = true ∧ (spotsB (sgnPg k 0 0 o)).2.2 = 0 ∧ checkB (sgnPg k 0 0 o) 9 = 0 := by
  rcases hk with rfl | rfl | rfl | rfl <;> rcases ho with rfl | rfl | rfl | rfl | rfl | rfl | rfl | rfl <;> exact ⟨by kernel_rfl, by kernel_rfl, by kernel_rfl⟩
theorem sgn_in {k x y o : Int} (hx : inR k x = true) (hy : inR k y = true) (ho : o ≠ 1) : ∀ i ∈ (sgnPg k x y o).ins, i.op = 1 → inR i.t i.n = true := by
  intro i hi h1
  simp only [sgnPg, List.mem_cons, List.not_mem_nil, or_false] at hi
  rcases hi with rfl | rfl | rfl | rfl
  · exact hx
  · exact hy
  · exact absurd h1 ho
  · exact absurd h1 (by decide)
theorem sgn_check {k x y o : Int} (hk : k = 2 ∨ k = 3 ∨ k = 4 ∨ k = 5) (ho : o = 4 ∨ o = 5 ∨ o = 6 ∨ o = 7 ∨ o = 8 ∨ o = 9 ∨ o = 10 ∨ o = 11) (hx : inR k x = true) (hy : inR k y = true) :
    (spotsB (sgnPg k x y o)).2.2 = 0 ∧ checkB (sgnPg k x y o) 9 = 0 := by
  have h1 : o ≠ 1 := by omega
  obtain ⟨a, b, c⟩ := sgn_closed hk ho
  have hz := sgn_zero (k := k) (x := x) (y := y) h1
  rw [zn_spots (by rw [hz]; exact a) (sgn_in hx hy h1), zn_check (by rw [hz]; exact a) (sgn_in hx hy h1), hz]
  exact ⟨b, c⟩
/-- What the program comes to. -/
theorem sgn_scan {k x y o : Int} (hk : k = 2 ∨ k = 3 ∨ k = 4 ∨ k = 5) (ho : o = 4 ∨ o = 5 ∨ o = 6 ∨ o = 7 ∨ o = 8 ∨ o = 9 ∨ o = 10 ∨ o = 11) (hx : inR k x = true) (hy : inR k y = true) :
    scanB (sgnPg k x y o) (firstB (sgnPg k x y o)) [] 0 = if (o = 7 ∨ o = 8) ∧ y = 0 then (firstB (sgnPg k x y o), [], 2, 162) else (⟨[signB o k x y], []⟩, [signB o k x y], 4, 0) := by
  have h0 := (sgn_check hk ho hx hy).1
  have hf : fitsS (sgnPg k x y o) (firstB (sgnPg k x y o)) = true := by
    rcases hk with rfl | rfl | rfl | rfl <;> rfl
  have hp : putB 1 (sgnPg k x y o).vars (firstB (sgnPg k x y o)).vars [] = some [0] := rfl
  have hj : joinsOp o = true := by
    rcases ho with rfl | rfl | rfl | rfl | rfl | rfl | rfl | rfl <;> rfl
  have hm : mRun (sgnPg k x y o) 0 5 (mStart ⟨[0], []⟩) = if (o = 7 ∨ o = 8) ∧ y = 0 then (⟨⟨[0], []⟩, [x, y], 2, 2⟩, 162) else (⟨⟨[signB o k x y], []⟩, [], 4, 4⟩, 0) := by
    by_cases hz : (o = 7 ∨ o = 8) ∧ y = 0
    · rw [if_pos hz]
      obtain ⟨h7, rfl⟩ := hz
      rcases h7 with rfl | rfl <;> rfl
    · rw [if_neg hz]
      have hz' : zeroDiv ⟨⟨[0], []⟩, [x, y], 2, 2⟩ ⟨o, k, 0, 0⟩ = false := by
        unfold zeroDiv topI
        simp only [Bool.and_eq_false_iff, Bool.or_eq_false_iff, decide_eq_false_iff_not, List.getLastD_cons, List.getLastD_nil]
        omega
      have s1 : mRun (sgnPg k x y o) 0 5 (mStart ⟨[0], []⟩) = mRun (sgnPg k x y o) 0 3 ⟨⟨[0], []⟩, [x, y], 2, 2⟩ := rfl
      have s2 : mRun (sgnPg k x y o) 0 3 ⟨⟨[0], []⟩, [x, y], 2, 2⟩ = if zeroDiv ⟨⟨[0], []⟩, [x, y], 2, 2⟩ ⟨o, k, 0, 0⟩ = true then (⟨⟨[0], []⟩, [x, y], 2, 2⟩, 162) else mRun (sgnPg k x y o) 0 2 (mStep (sgnPg k x y o) 0 ⟨⟨[0], []⟩, [x, y], 2, 2⟩ ⟨o, k, 0, 0⟩) := rfl
      have s3 : mStep (sgnPg k x y o) 0 ⟨⟨[0], []⟩, [x, y], 2, 2⟩ ⟨o, k, 0, 0⟩ = ⟨⟨[0], []⟩, [signB o k x y], 3, 3⟩ := by
        rw [mStep, if_pos hj]; rfl
      rw [s1, s2, if_neg (by rw [hz']; decide), s3]
      rfl
  unfold scanB
  rw [if_neg (by rw [h0]; decide), if_neg (by rw [hf]; decide), hp]
  have e5 : (sgnPg k x y o).ins.length + 1 = 5 := rfl
  have eb : (firstB (sgnPg k x y o)).blocks = [] := rfl
  simp only [e5, eb, hm]
  by_cases hz : (o = 7 ∨ o = 8) ∧ y = 0
  · simp only [if_pos hz]
    rfl
  · simp only [if_neg hz]
    rfl
end Go.Proofs.Ytiogpainajokkaa

namespace Go.Proofs.Ytiogpainajokkaa
open Go.RowKit
theorem wrap_id {k n : Int} (hk : k = 2 ∨ k = 3 ∨ k = 4 ∨ k = 5) (h : inR k n = true) : wrapOf k n = n := by
  unfold inR at h
  simp only [Bool.and_eq_true, decide_eq_true_eq] at h
  rcases hk with rfl | rfl | rfl | rfl
  · have h' : -128 ≤ n ∧ n ≤ 127 := h
    show IntKind.i8.wrap n = n
    simp only [IntKind.wrap, IntKind.bits, IntKind.signed]
    simp
    omega
  · have h' : -32768 ≤ n ∧ n ≤ 32767 := h
    show IntKind.i16.wrap n = n
    simp only [IntKind.wrap, IntKind.bits, IntKind.signed]
    simp
    omega
  · have h' : -2147483648 ≤ n ∧ n ≤ 2147483647 := h
    show IntKind.i32.wrap n = n
    simp only [IntKind.wrap, IntKind.bits, IntKind.signed]
    simp
    omega
  · have h' : 0 ≤ n ∧ n ≤ 4294967295 := h
    show IntKind.u32.wrap n = n
    simp only [IntKind.wrap, IntKind.bits, IntKind.signed]
    simp
    omega
/-- What is known of a rest. -/
theorem rest_bnd (x y : Int) (h0 : y ≠ 0) : y * x.tdiv y + x.tmod y = x ∧ (0 ≤ x → 0 ≤ x.tmod y ∧ x.tmod y ≤ x) ∧ (x ≤ 0 → x.tmod y ≤ 0 ∧ x ≤ x.tmod y) ∧ -(y.natAbs : Int) < x.tmod y ∧ x.tmod y < y.natAbs := by
  have e : y * x.tdiv y + x.tmod y = x := Int.mul_tdiv_add_tmod x y
  have hn : (x.tmod y).natAbs = x.natAbs % y.natAbs := Int.natAbs_tmod x y
  have hlt : x.natAbs % y.natAbs < y.natAbs := Nat.mod_lt _ (by omega)
  have hle : x.natAbs % y.natAbs ≤ x.natAbs := Nat.mod_le _ _
  refine ⟨e, fun hx => ?_, fun hx => ?_, by omega, by omega⟩
  · have := Int.tmod_nonneg y hx
    omega
  · have h1 : x.tmod y = -((-x).tmod y) := by rw [Int.neg_tmod, Int.neg_neg]
    have := Int.tmod_nonneg y (show 0 ≤ -x by omega)
    omega
theorem rng_of {k n : Int} (h : inR k n = true) : -2147483648 ≤ n ∧ n ≤ 4294967295 := by
  have := range_bound k
  unfold inR at h
  simp only [Bool.and_eq_true, decide_eq_true_eq] at h
  omega
theorem rest_in {k x y : Int} (hx : inR k x = true) (h0 : y ≠ 0) : inR k (x.tmod y) = true := by
  obtain ⟨_, h1, h2, _, _⟩ := rest_bnd x y h0
  have := range_bound k
  unfold inR at hx ⊢
  simp only [Bool.and_eq_true, decide_eq_true_eq] at hx ⊢
  rcases Int.le_total 0 x with h | h
  · have := h1 h; omega
  · have := h2 h; omega
theorem quot_main {k x y : Int} (hk : k = 2 ∨ k = 3 ∨ k = 4 ∨ k = 5) (hx : inR k x = true) (h0 : y ≠ 0) (hd : inR k (x.tdiv y) = true) : wrapOf k (wrap64 (wrap64 (wrapOf k (wrap64 (x.tdiv y)) * y) + wrapOf k (x.tmod y))) = x := by
  obtain ⟨e, _, _, _, _⟩ := rest_bnd x y h0
  have hr := rest_in hx h0 (y := y)
  have b1 := rng_of hx
  have b2 := rng_of hd
  have b3 := rng_of hr
  rw [wrap64_small (n := x.tdiv y) (by omega) (by omega), wrap_id hk hd, wrap_id hk hr, Int.mul_comm (x.tdiv y) y]
  have e2 : y * x.tdiv y = x - x.tmod y := by omega
  rw [e2, wrap64_small (n := x - x.tmod y) (by omega) (by omega), show x - x.tmod y + x.tmod y = x by omega, wrap64_small (by omega) (by omega), wrap_id hk hx]
theorem quot_in {k x y : Int} (hk : k = 2 ∨ k = 3 ∨ k = 4 ∨ k = 5) (hx : inR k x = true) (hy : inR k y = true) (h0 : y ≠ 0) : inR k (x.tdiv y) = true ∨ (y = -1 ∧ x.tmod y = 0 ∧ ((k = 2 ∧ x = -128 ∧ x.tdiv y = 128) ∨ (k = 3 ∧ x = -32768 ∧ x.tdiv y = 32768) ∨ (k = 4 ∧ x = -2147483648 ∧ x.tdiv y = 2147483648))) := by
  obtain ⟨e, h1, h2, _, _⟩ := rest_bnd x y h0
  have ha : (x.tdiv y).natAbs ≤ x.natAbs := Int.natAbs_tdiv_le_natAbs x y
  unfold inR at hx hy ⊢
  simp only [Bool.and_eq_true, decide_eq_true_eq] at hx hy ⊢
  rcases hk with rfl | rfl | rfl | rfl
  · have hx' : -128 ≤ x ∧ x ≤ 127 := hx
    by_cases hd : x.tdiv y = 128
    · right
      rw [hd] at e ha
      have h2' := h2 (by omega)
      exact ⟨by omega, by omega, .inl ⟨rfl, by omega, hd⟩⟩
    · left
      show -128 ≤ x.tdiv y ∧ x.tdiv y ≤ 127
      omega
  · have hx' : -32768 ≤ x ∧ x ≤ 32767 := hx
    by_cases hd : x.tdiv y = 32768
    · right
      rw [hd] at e ha
      have h2' := h2 (by omega)
      exact ⟨by omega, by omega, .inr (.inl ⟨rfl, by omega, hd⟩)⟩
    · left
      show -32768 ≤ x.tdiv y ∧ x.tdiv y ≤ 32767
      omega
  · have hx' : -2147483648 ≤ x ∧ x ≤ 2147483647 := hx
    by_cases hd : x.tdiv y = 2147483648
    · right
      rw [hd] at e ha
      have h2' := h2 (by omega)
      exact ⟨by omega, by omega, .inr (.inr ⟨rfl, by omega, hd⟩)⟩
    · left
      show -2147483648 ≤ x.tdiv y ∧ x.tdiv y ≤ 2147483647
      omega
  · left
    have hx' : 0 ≤ x ∧ x ≤ 4294967295 := hx
    have hy' : 0 ≤ y ∧ y ≤ 4294967295 := hy
    have := Int.tdiv_nonneg hx'.1 hy'.1
    show 0 ≤ x.tdiv y ∧ x.tdiv y ≤ 4294967295
    omega
/-- A quotient and a rest make the number again; the rest has its sign. -/
theorem sgn_quot {k x y : Int} (hk : k = 2 ∨ k = 3 ∨ k = 4 ∨ k = 5) (hx : inR k x = true) (hy : inR k y = true) (h0 : y ≠ 0) :
    wrapOf k (wrap64 (wrap64 (signB 7 k x y * y) + signB 8 k x y)) = x ∧ (signB 8 k x y = 0 ∨ decide (signB 8 k x y < 0) = decide (x < 0)) := by
  have e7 : signB 7 k x y = wrapOf k (wrap64 (x.tdiv y)) := rfl
  have e8 : signB 8 k x y = wrapOf k (x.tmod y) := rfl
  rw [e7, e8]
  refine ⟨?_, ?_⟩
  · rcases quot_in hk hx hy h0 with hd | ⟨rfl, hr, hc⟩
    · exact quot_main hk hx h0 hd
    · rcases hc with ⟨rfl, rfl, hd⟩ | ⟨rfl, rfl, hd⟩ | ⟨rfl, rfl, hd⟩ <;> rw [hd, hr] <;> kernel_rfl
  · rw [wrap_id hk (rest_in hx h0)]
    obtain ⟨_, h1, h2, _, _⟩ := rest_bnd x y h0
    by_cases hr : x.tmod y = 0
    · exact .inl hr
    · right
      rcases Int.le_total 0 x with h | h
      · have := h1 h
        rw [decide_eq_false (by omega), decide_eq_false (by omega)]
      · have := h2 h
        rw [decide_eq_true (show x.tmod y < 0 by omega), decide_eq_true (show x < 0 by omega)]
end Go.Proofs.Ytiogpainajokkaa

