/- Contracts of bytes.GetUint, whole, and of bytes.GetBlob. -/
import Derived.Test.YthiapebodpkamaaGetV
import Derived.Test.YthiapebodpkamaaBytesB
namespace Go.Proofs.Ythiapebodpkamaa
open Go.RowKit
theorem getUint_any (w : World) (v : Value) (l : List Int) (h : Rd oneU8 1 w v l) (hb : Bys l) (d : Nat) (hd : d ≤ l.length) :
    Calls Try.prog 86 #[v, .int .i64 (d : Int)] w (GetPost w l (getU (l.drop d))) := by
  cases hg : firstLow (l.drop d) with
  | none =>
    have e : getU (l.drop d) = none := by unfold getU; rw [hg]
    rw [e]
    exact getUint_none w v l h d hd hg
  | some k => exact getUint_some w v l h hb d hd k hg
def midU (A : Option Addr) (c d h : Nat) : Value := .slice (if c = d then A else A.map (·.add d)) (h - d) (c - d)
theorem run_midU (W : World) (A : Option Addr) (n c d m : Nat) (h : d + m ≤ c) : (Instr.slice 62 (.slice A n c) (some (.int .i64 (d : Int))) (some (.int .i64 ((d : Int) + (m : Int)))) none).run Try.prog W = .ok (midU A c d (d + m)) W := by
  have ht : Try.prog.underlying 62 = some (.slice (Try.prog.elem 62)) := by kernel_rfl
  have hs : (Go.sizeOf (Try.prog.elem 62)).run Try.prog W = .ok 1 W := by kernel_rfl
  rw [run_slice_lh W _ _ _ _ ht .i64 .i64 _ _ (by omega) (by omega) (by omega), hs]
  simp only [Result.andThen, sliced, midU, Int.toNat_natCast, show ((d : Int) + (m : Int)).toNat = d + m by omega, Nat.mul_one]
theorem Rd.midU {w : World} {A : Option Addr} {n c : Nat} {xs : List Int} (h : Rd oneU8 1 w (.slice A n c) xs) (d m : Nat) (hd : d + m ≤ n) : Rd oneU8 1 w (midU A c d (d + m)) ((xs.drop d).take m) := by
  obtain ⟨h0, A', c', e, h2, h4, h3⟩ := h
  cases e
  have hl : ((xs.drop d).take m).length = m := by rw [List.length_take, List.length_drop]; omega
  refine ⟨by omega, _, _, by unfold Go.Proofs.Ythiapebodpkamaa.midU; rw [hl, show d + m - d = m by omega], by omega, fun e => ?_, fun hp => ?_⟩
  · by_cases hcd : c = d
    · rw [if_pos hcd] at e; have := h4 e; omega
    · rw [if_neg hcd] at e
      have : A = none := by cases A <;> simp_all
      have := h4 this; omega
  · rw [hl] at hp
    obtain ⟨b, off, rfl, hc⟩ := h3 (by omega)
    refine ⟨b, off + d, ?_, fun j hj i u hu => ?_⟩
    · rw [if_neg (by omega)]
      simp [Addr.add_lit]
    · rw [hl] at hj
      have hj' : d + j < xs.length := by omega
      have e : ((xs.drop d).take m)[j] = xs[d + j] := by rw [List.getElem_take, List.getElem_drop]
      rw [e] at hu
      have := hc (d + j) hj' i u hu
      rw [show off + d + j * 1 + i = off + (d + j) * 1 + i by omega]
      exact this
def blobP (most : Nat) (l : List Int) : Option (List Int × List Int) := (getU l).bind fun p => if p.1 ≤ most ∧ p.1 ≤ p.2.length then some (p.2.take p.1, p.2.drop p.1) else none
def BlobPost (w : World) (l : List Int) (o : Option (List Int × List Int)) (e : Ending) (w' : World) : Prop :=
  match o with
  | some (s, r) => ∃ (v : Value) (at_ : Nat), at_ ≤ l.length ∧ l.drop at_ = r ∧ e = .returned (.tuple #[v, .int .i64 (at_ : Int), .int .i64 0]) ∧ Rd oneU8 1 w' v s ∧ Below w.heap.size w w'
  | none => ∃ er : Int, er ≠ 0 ∧ e = .returned (.tuple #[.slice none 0 0, .int .i64 0, .int .i64 er]) ∧ w = w'
theorem byteInfo : ∃ i, Try.prog.info? 5 = some i ∧ i.zero = some (.int .u8 0) ∧ i.size = 1 ∧ i.bytes = 1 := by
  have h : (Try.prog.info? 5).map (fun i => (i.zero, i.size, i.bytes)) = some (some (.int .u8 0), 1, 1) := by kernel_rfl
  obtain ⟨i, h1, h2⟩ := Option.map_eq_some_iff.1 h
  simp only [Prod.mk.injEq] at h2
  exact ⟨i, h1, h2.1, h2.2.1, h2.2.2⟩
theorem blob_end {w w' : World} {l : List Int} {s r : List Int} {v : Value} {z : Int} (at_ : Nat) (h1 : at_ ≤ l.length) (h2 : l.drop at_ = r) (h3 : z = at_) (h4 : Rd oneU8 1 w' v s) (h5 : Below w.heap.size w w') : BlobPost w l (some (s, r)) (.returned (.tuple #[v, .int .i64 z, .int .i64 0])) w' :=
  ⟨v, at_, h1, h2, by rw [h3], h4, h5⟩
set_option maxHeartbeats 4000000 in
set_option maxRecDepth 100000 in
theorem getBlob_any (w : World) (v : Value) (l : List Int) (h : Rd oneU8 1 w v l) (hb : Bys l) (d : Nat) (hd : d ≤ l.length) (most : Nat) (hm : most ≤ 1000000) :
    Calls Try.prog 85 #[v, .int .i64 (d : Int), .int .i64 (most : Int)] w (BlobPost w l (blobP most (l.drop d))) := by
  have HG := Fact.mk (getUint_any w v l h hb d hd)
  obtain ⟨A, q, c, rfl, hq⟩ : ∃ A q c, v = .slice A q c ∧ l.length = q := by obtain ⟨_, A, c, h, _⟩ := h; exact ⟨A, _, c, h, rfl⟩
  have HR := Fact.mk h
  have hcq : q ≤ c := by
    obtain ⟨_, A', c', e, h2, _⟩ := h
    cases e
    omega
  have hq9 : q ≤ 9223372036854775807 := by have := h.1; omega
  have HQ := Fact.mk hq
  obtain ⟨g, hg⟩ : ∃ g, getU (l.drop d) = g := ⟨_, rfl⟩
  rw [hg] at HG
  obtain ⟨o, ho⟩ : ∃ o, blobP most (l.drop d) = o := ⟨_, rfl⟩
  have HO : Fact (g.bind (fun p => if p.1 ≤ most ∧ p.1 ≤ p.2.length then some (p.2.take p.1, p.2.drop p.1) else none) = o) := ⟨by rw [← ho, ← hg]; rfl⟩
  rw [ho]
  clear h hb hg ho hq hd
  go_enter Try.func85, Try.ntmps85
  go_wp2_with fail
  refine HG.out.mono ?_
  rintro e w1 ⟨rfl, hp⟩
  cases g with
  | none =>
    obtain ⟨er, he, rfl⟩ := hp
    obtain rfl := HO.out
    have e1 : (er != 0) = true := bne_iff_ne.2 he
    have HE := Fact.mk he
    clear he HG HO
    go_wp2
    go_ret3
    exact ⟨er, HE.out, rfl, rfl⟩
  | some p =>
    obtain ⟨n, r⟩ := p
    obtain ⟨at_, ha, hr, rfl⟩ := hp
    have hrl : at_ + r.length = q := by rw [← hr, List.length_drop, HQ.out]; have := HQ.out; omega
    have HRR := Fact.mk hr
    have HA := Fact.mk ha
    clear hr HG ha
    by_cases h1 : n ≤ most
    · have e1 : decide ((most : Int) < (n : Int)) = false := decide_eq_false (by omega)
      have e1b : decide (most < n) = false := decide_eq_false (by omega)
      have e0 : ¬ (most : Int) < 0 := by omega
      by_cases h2 : n ≤ r.length
      · have hoo : some (r.take n, r.drop n) = o := by rw [← HO.out]; exact (if_pos (show n ≤ most ∧ n ≤ r.length from ⟨h1, h2⟩)).symm
        subst hoo
        have s1 : (q : Int) - (at_ : Int) = ((q - at_ : Nat) : Int) := by omega
        have e2 : decide (((q - at_ : Nat) : Int) < (n : Int)) = false := decide_eq_false (by omega)
        have e2b : decide (q - at_ < n) = false := decide_eq_false (by omega)
        have hrun := run_midU w A q c at_ n (by omega)
        have HM := Fact.mk (HR.out.midU at_ n (by omega))
        rw [HRR.out] at HM
        have hn9 : (at_ : Int) + (n : Int) ≤ 9223372036854775807 := by omega
        have hnn : (n : Int) ≤ 9223372036854775807 := by omega
        obtain ⟨i0, hi, hz0, hz1, hz2⟩ := byteInfo
        have H2 := Fact.mk h2
        have H1 := Fact.mk h1
        have HRL := Fact.mk hrl
        clear h2 h1 hrl HO
        generalize midU A c at_ (at_ + n) = mv at hrun HM
        go_wp2_with (at_builtin; refine wpList_append_rd rfl _ _ 62 rfl w.heap.size 5 i0 (.int .u8 0) 1 1 Try.underlying62 hi hz0 hz1 hz2 rfl (by decide) (by decide) oneU8 oneU8_len oneU8_one _ [] rfl (Own.nil _ _ _ _ _) _ (r.take n) rfl HM.out (by rw [List.length_take]; have := H1.out; simp; omega) (Nat.le_refl _) ?_)
        intro v' W2 ho hrow
        obtain ⟨A', n', c', rfl⟩ := ho.slice
        have B2 : Fact (Below w.heap.size w W2) := ⟨(Below.refl _ _).grown hrow.g (Nat.le_refl _) (fun k hk => by cases hk)⟩
        have RO := Fact.mk (ho.rd oneU8_len)
        clear ho hrow hrun
        go_wp2
        go_ret3
        exact blob_end (at_ + n) (by have := H2.out; have := HRL.out; have := HQ.out; omega) (by rw [← List.drop_drop, HRR.out]) (by omega) RO.out B2.out
      · have hoo : none = o := by rw [← HO.out]; exact (if_neg (show ¬ (n ≤ most ∧ n ≤ r.length) from fun h => h2 h.2)).symm
        subst hoo
        have s1 : (q : Int) - (at_ : Int) = ((q - at_ : Nat) : Int) := by omega
        have e2 : decide (((q - at_ : Nat) : Int) < (n : Int)) = true := decide_eq_true (by omega)
        have e2b : decide (q - at_ < n) = true := decide_eq_true (by omega)
        clear h1 h2 HO hrl
        go_wp2
        go_ret3
        exact ⟨10, by decide, rfl, rfl⟩
    · have hoo : none = o := by rw [← HO.out]; exact (if_neg (show ¬ (n ≤ most ∧ n ≤ r.length) from fun h => h1 h.1)).symm
      subst hoo
      have e1 : decide ((most : Int) < (n : Int)) = true := decide_eq_true (by omega)
      have e1b : decide (most < n) = true := decide_eq_true (by omega)
      have e0 : ¬ (most : Int) < 0 := by omega
      clear h1 HO hrl
      go_wp2
      go_ret3
      exact ⟨3, by decide, rfl, rfl⟩
end Go.Proofs.Ythiapebodpkamaa

