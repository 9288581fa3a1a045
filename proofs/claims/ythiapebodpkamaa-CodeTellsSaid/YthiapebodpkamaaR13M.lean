/- blockhouseref13.eye: how it lies in memory; eye.num and eye.text. Printed by gen_r13e.py. -/
import Derived.Test.YthiapebodpkamaaR01M
import Derived.Test.YthiapebodpkamaaRdr
import Derived.Test.YthiapebodpkamaaReadW
import Derived.Test.YthiapebodpkamaaReadL
import Derived.Test.YthiapebodpkamaaRdi
namespace Go.Proofs.Ythiapebodpkamaa
open Go.RowKit
/-- An eye at block r of the bytes l: what is left, or nothing if it has failed. -/
def EyAt (W : World) (r : Nat) (vb : Value) (l : List Int) (o : Option (List Int)) : Prop :=
  Rd oneU8 1 W vb l ∧ ∃ (at_ : Nat) (bad : Bool), at_ ≤ l.length ∧ W.heap[r]? = some (.cells #[vb, .int .i64 (at_ : Int), .bool bad] 112 (0, 0)) ∧ (match o with | some rest => bad = false ∧ l.drop at_ = rest | none => bad = true)
theorem EyAt.bad {w w1 : World} {r : Nat} {vb : Value} {l : List Int} {o : Option (List Int)} (h : EyAt w r vb l o) (hb : Below w.heap.size w w1) : EyAt (w1.setCell ⟨r, 2, none⟩ (.bool true)) r vb l none ∧ w.grownBy (w1.setCell ⟨r, 2, none⟩ (.bool true)) (some r) := by
  obtain ⟨hv, at_, bad, ha, hr, _⟩ := h
  obtain ⟨A, n, c, rfl⟩ := rdr_slice hv
  have hr1 := (hb.block r (Array.getElem?_eq_some_iff.1 hr).1).trans hr
  have hg := grown_trans (grown_below hb (some r)) (set_grown w1 r 2 (.bool true))
  exact ⟨⟨hv.rdr hr hg, at_, true, ha, set3_2 hr1, rfl⟩, hg⟩
theorem EyAt.at {w w1 : World} {r : Nat} {vb : Value} {l rest : List Int} (h : EyAt w r vb l (some rest)) (hb : Below w.heap.size w w1) {a2 : Nat} (h2 : a2 ≤ l.length) {rest2 : List Int} (h3 : l.drop a2 = rest2) : EyAt (w1.setCell ⟨r, 1, none⟩ (.int .i64 (a2 : Int))) r vb l (some rest2) ∧ w.grownBy (w1.setCell ⟨r, 1, none⟩ (.int .i64 (a2 : Int))) (some r) := by
  obtain ⟨hv, at_, bad, ha, hr, h5, _⟩ := h
  obtain ⟨A, n, c, rfl⟩ := rdr_slice hv
  subst h5
  have hr1 := (hb.block r (Array.getElem?_eq_some_iff.1 hr).1).trans hr
  have hg := grown_trans (grown_below hb (some r)) (set_grown w1 r 1 (.int .i64 (a2 : Int)))
  exact ⟨⟨hv.rdr hr hg, a2, false, h2, set3_1 hr1, rfl, h3⟩, hg⟩
theorem EyAt.below {w w1 : World} {r : Nat} {vb : Value} {l : List Int} {o : Option (List Int)} (h : EyAt w r vb l o) (hb : Below w.heap.size w w1) : EyAt w1 r vb l o := by
  obtain ⟨hv, at_, bad, ha, hr, h5⟩ := h
  exact ⟨hv.below hb, at_, bad, ha, (hb.block r (Array.getElem?_eq_some_iff.1 hr).1).trans hr, h5⟩
def ENumPost (w : World) (r : Nat) (vb : Value) (l : List Int) (p : Option (Nat × List Int)) (e : Ending) (w' : World) : Prop :=
  e = .returned (.int .u64 (((p.map (·.1)).getD 0 : Nat) : Int)) ∧ EyAt w' r vb l (p.map (·.2)) ∧ w.grownBy w' (some r)
def ETextPost (w : World) (r : Nat) (vb : Value) (l : List Int) (p : Option (ByteArray × List Int)) (e : Ending) (w' : World) : Prop :=
  e = .returned (.string ((p.map (·.1)).getD ⟨#[]⟩)) ∧ EyAt w' r vb l (p.map (·.2)) ∧ w.grownBy w' (some r)
set_option maxHeartbeats 4000000 in
set_option maxRecDepth 100000 in
theorem enum_any (w : World) (r : Nat) (vb : Value) (l : List Int) (hb : Bys l) (hlm : l.length ≤ 1000000) (o : Option (List Int)) (h : EyAt w r vb l o) (most : Nat) :
    Calls Try.prog 63 #[.pointer (some ⟨r, 0, none⟩), .int .u64 (most : Int)] w (ENumPost w r vb l (o.bind (numP most))) := by
  obtain ⟨p, hp⟩ : ∃ p, o.bind (numP most) = p := ⟨_, rfl⟩
  rw [hp]
  have HP := Fact.mk hp
  clear hp
  obtain ⟨hv, at_, bad, ha, hr, hs⟩ := id h
  obtain ⟨A, n, c, rfl⟩ := rdr_slice hv
  obtain ⟨⟨k0, k1, k2⟩, f0, f1, f2⟩ := row3 hr
  have H := Fact.mk h
  obtain ⟨g, hg⟩ : ∃ g, getU (l.drop at_) = g := ⟨_, rfl⟩
  have HG := fun (W : World) (hW : Below w.heap.size w W) => rGetUint_any W _ l (hv.below hW) hb hlm at_ ha
  rw [hg] at HG
  have HGG := Fact.mk hg
  have HROW := Fact.mk hr
  have HSS := Fact.mk hs
  have hlt := (Array.getElem?_eq_some_iff.1 hr).1
  have CONJ : Fact (∀ W : World, Fact (Below w.heap.size w W) → W.cell? ⟨r, 0, none⟩ = some (.slice A n c) ∧ W.cell? ⟨r, 1, none⟩ = some (.int .i64 (at_ : Int)) ∧ Fact (Below w.heap.size w W)) := ⟨fun W hW => by
    have := (row3 ((hW.out.block r hlt).trans HROW.out)).1
    exact ⟨this.1, this.2.1, hW⟩⟩
  have HG2 : Fact (∀ W : World, Fact (Below w.heap.size w W) → Calls Try.prog 88 #[.slice A n c, .int .i64 (at_ : Int)] W (RGetPost W l g)) := ⟨fun W hW => HG W hW.out⟩
  clear h hv hr hs hg HG f0 f1 f2
  go_enter Try.func63, Try.ntmps63
  go_wp2_with fail
  cases g with
  | none =>
    go_region_held3 (fun W => W.cell? ⟨r, 0, none⟩ = some (.slice A n c) ∧ W.cell? ⟨r, 1, none⟩ = some (.int .i64 (at_ : Int)) ∧ Fact (Below w.heap.size w W))
      (first | exact CONJ.out _ ⟨(Below.refl _ _).drew⟩ | exact CONJ.out _ (by assumption) | assumption)
      (first | (go_at_call 88; (with_reducible refine (HG2.out _ (by first | exact ⟨(Below.refl _ _).drew⟩ | assumption)).mono ?_); rintro e W6 ⟨hb6, er, he, rfl⟩; have HB6 : Fact (Below w.heap.size w W6) := ⟨((Below.refl _ _).drew).trans (hb6.mono (Nat.le_refl _))⟩))
    rename_i hh
    have e1 : (er != 0) = true := bne_iff_ne.2 he
    obtain ⟨⟨-, k1, k2⟩, -, f1, f2⟩ := row3 ((HB6.out.block r hlt).trans HROW.out)
    have HN : Fact (p = none) := ⟨by
      rw [← HP.out]
      cases o with
      | none => rfl
      | some rest =>
        show numP most rest = none
        unfold numP
        rw [← HSS.out.2, HGG.out]⟩
    clear hh he HG2 CONJ
    cases bad with
    | true =>
      obtain rfl := HN.out
      go_wp2
      go_ret
      have hB := H.out.bad HB6.out
      exact ⟨rfl, hB.1, hB.2⟩
    | false =>
      obtain rfl := HN.out
      go_wp2
      go_ret
      have hB := H.out.bad HB6.out
      exact ⟨rfl, hB.1, hB.2⟩
  | some q =>
    obtain ⟨m, rest2⟩ := q
    go_region_held3 (fun W => W.cell? ⟨r, 0, none⟩ = some (.slice A n c) ∧ W.cell? ⟨r, 1, none⟩ = some (.int .i64 (at_ : Int)) ∧ Fact (Below w.heap.size w W))
      (first | exact CONJ.out _ ⟨(Below.refl _ _).drew⟩ | exact CONJ.out _ (by assumption) | assumption)
      (first | (go_at_call 88; (with_reducible refine (HG2.out _ (by first | exact ⟨(Below.refl _ _).drew⟩ | assumption)).mono ?_); rintro e W6 ⟨hb6, a2, ha2, hd2, hm64, rfl⟩; have HB6 : Fact (Below w.heap.size w W6) := ⟨((Below.refl _ _).drew).trans (hb6.mono (Nat.le_refl _))⟩))
    rename_i hh
    obtain ⟨⟨-, k1, k2⟩, -, f1, f2⟩ := row3 ((HB6.out.block r hlt).trans HROW.out)
    have HA := Fact.mk ha2
    have HD := Fact.mk hd2
    clear hh HG2 CONJ ha2 hd2
    cases bad with
    | true =>
      have HN : Fact (p = none) := ⟨by
        rw [← HP.out]
        cases o with
        | none => rfl
        | some rest => exact absurd HSS.out.1 (by decide)⟩
      obtain rfl := HN.out
      go_wp2
      go_ret
      have hB := H.out.bad HB6.out
      exact ⟨rfl, hB.1, hB.2⟩
    | false =>
      obtain ⟨rest, hro⟩ : ∃ rest, o = some rest := by
        cases o with
        | none => exact absurd (show false = true from HSS.out) Bool.false_ne_true
        | some rest => exact ⟨rest, rfl⟩
      subst hro
      by_cases hmm : m ≤ most
      · have HN : Fact (p = some (m, rest2)) := ⟨by
          rw [← HP.out]
          show numP most rest = _
          unfold numP
          rw [← HSS.out.2, HGG.out]
          exact if_pos hmm⟩
        have e1 : decide ((most : Int) < (m : Int)) = false := decide_eq_false (by omega)
        have e2 : decide (most < m) = false := decide_eq_false (by omega)
        clear hmm
        obtain rfl := HN.out
        go_wp2
        go_ret
        have hB := H.out.at HB6.out HA.out HD.out
        exact ⟨rfl, hB.1, hB.2⟩
      · have HN : Fact (p = none) := ⟨by
          rw [← HP.out]
          show numP most rest = _
          unfold numP
          rw [← HSS.out.2, HGG.out]
          exact if_neg hmm⟩
        have e1 : decide ((most : Int) < (m : Int)) = true := decide_eq_true (by omega)
        have e2 : decide (most < m) = true := decide_eq_true (by omega)
        clear hmm
        obtain rfl := HN.out
        go_wp2
        go_ret
        have hB := H.out.bad HB6.out
        exact ⟨rfl, hB.1, hB.2⟩
set_option maxHeartbeats 4000000 in
set_option maxRecDepth 100000 in
theorem etext_any (w : World) (r : Nat) (vb : Value) (l : List Int) (hb : Bys l) (hlm : l.length ≤ 1000000) (o : Option (List Int)) (h : EyAt w r vb l o)  :
    Calls Try.prog 62 #[.pointer (some ⟨r, 0, none⟩)] w (ETextPost w r vb l (o.bind (textP))) := by
  obtain ⟨p, hp⟩ : ∃ p, o.bind (textP) = p := ⟨_, rfl⟩
  rw [hp]
  have HP := Fact.mk hp
  clear hp
  obtain ⟨hv, at_, bad, ha, hr, hs⟩ := id h
  obtain ⟨A, n, c, rfl⟩ := rdr_slice hv
  obtain ⟨⟨k0, k1, k2⟩, f0, f1, f2⟩ := row3 hr
  have H := Fact.mk h
  obtain ⟨g, hg⟩ : ∃ g, blobP 40 (l.drop at_) = g := ⟨_, rfl⟩
  have HG := fun (W : World) (hW : Below w.heap.size w W) => rGetBlob_any W _ l (hv.below hW) hb hlm at_ ha 40 (by decide)
  rw [hg] at HG
  have HGG := Fact.mk hg
  have HROW := Fact.mk hr
  have HSS := Fact.mk hs
  have hlt := (Array.getElem?_eq_some_iff.1 hr).1
  have CONJ : Fact (∀ W : World, Fact (Below w.heap.size w W) → W.cell? ⟨r, 0, none⟩ = some (.slice A n c) ∧ W.cell? ⟨r, 1, none⟩ = some (.int .i64 (at_ : Int)) ∧ Fact (Below w.heap.size w W)) := ⟨fun W hW => by
    have := (row3 ((hW.out.block r hlt).trans HROW.out)).1
    exact ⟨this.1, this.2.1, hW⟩⟩
  have HG2 : Fact (∀ W : World, Fact (Below w.heap.size w W) → Calls Try.prog 87 #[.slice A n c, .int .i64 (at_ : Int), .int .i64 40] W (RBlobPost W l g)) := ⟨fun W hW => HG W hW.out⟩
  clear h hv hr hs hg HG f0 f1 f2
  go_enter Try.func62, Try.ntmps62
  go_wp2_with fail
  cases g with
  | none =>
    go_region_held3 (fun W => W.cell? ⟨r, 0, none⟩ = some (.slice A n c) ∧ W.cell? ⟨r, 1, none⟩ = some (.int .i64 (at_ : Int)) ∧ Fact (Below w.heap.size w W))
      (first | exact CONJ.out _ ⟨(Below.refl _ _).drew⟩ | exact CONJ.out _ (by assumption) | assumption)
      (first | (go_at_call 87; (with_reducible refine (HG2.out _ (by first | exact ⟨(Below.refl _ _).drew⟩ | assumption)).mono ?_); rintro e W6 ⟨hb6, er, he, rfl⟩; have HB6 : Fact (Below w.heap.size w W6) := ⟨((Below.refl _ _).drew).trans (hb6.mono (Nat.le_refl _))⟩))
    rename_i hh
    have e1 : (er != 0) = true := bne_iff_ne.2 he
    obtain ⟨⟨-, k1, k2⟩, -, f1, f2⟩ := row3 ((HB6.out.block r hlt).trans HROW.out)
    have HN : Fact (p = none) := ⟨by
      rw [← HP.out]
      cases o with
      | none => rfl
      | some rest =>
        show textP rest = none
        rw [text_is, ← HSS.out.2, HGG.out]
        rfl⟩
    clear hh he HG2 CONJ
    cases bad with
    | true =>
      obtain rfl := HN.out
      go_wp2
      go_ret
      have hB := H.out.bad HB6.out
      exact ⟨rfl, hB.1, hB.2⟩
    | false =>
      obtain rfl := HN.out
      go_wp2
      go_ret
      have hB := H.out.bad HB6.out
      exact ⟨rfl, hB.1, hB.2⟩
  | some q =>
    obtain ⟨sb, rest2⟩ := q
    go_region_held3 (fun W => W.cell? ⟨r, 0, none⟩ = some (.slice A n c) ∧ W.cell? ⟨r, 1, none⟩ = some (.int .i64 (at_ : Int)) ∧ Fact (Below w.heap.size w W))
      (first | exact CONJ.out _ ⟨(Below.refl _ _).drew⟩ | exact CONJ.out _ (by assumption) | assumption)
      (first | (go_at_call 87; (with_reducible refine (HG2.out _ (by first | exact ⟨(Below.refl _ _).drew⟩ | assumption)).mono ?_); rintro e W6 ⟨hb6, v6, a2, ha2, hd2, rfl, hv6⟩; have HB6 : Fact (Below w.heap.size w W6) := ⟨((Below.refl _ _).drew).trans (hb6.mono (Nat.le_refl _))⟩; have HV6 := Fact.mk hv6; obtain ⟨A6, n6, c6, rfl⟩ := rdr_slice hv6))
    rename_i hh
    obtain ⟨⟨-, k1, k2⟩, -, f1, f2⟩ := row3 ((HB6.out.block r hlt).trans HROW.out)
    have hconv := conv_back (P := Try.prog) (HV6.out.rdr ((HB6.out.block r hlt).trans HROW.out) (set_grown W6 r 1 (.int .i64 (a2 : Int)))) 62 9 5 Try.underlying62 Try.underlying5 Try.underlying9
    have HA := Fact.mk ha2
    have HD := Fact.mk hd2
    clear hh HG2 CONJ ha2 hd2 hv6
    cases bad with
    | true =>
      have HN : Fact (p = none) := ⟨by
        rw [← HP.out]
        cases o with
        | none => rfl
        | some rest => exact absurd HSS.out.1 (by decide)⟩
      clear hconv
      obtain rfl := HN.out
      go_wp2
      go_ret
      have hB := H.out.bad HB6.out
      exact ⟨rfl, hB.1, hB.2⟩
    | false =>
      obtain ⟨rest, hro⟩ : ∃ rest, o = some rest := by
        cases o with
        | none => exact absurd (show false = true from HSS.out) Bool.false_ne_true
        | some rest => exact ⟨rest, rfl⟩
      subst hro
      have HN : Fact (p = some (strOfNums sb, rest2)) := ⟨by
        rw [← HP.out]
        show textP rest = _
        rw [text_is, ← HSS.out.2, HGG.out]
        rfl⟩
      obtain rfl := HN.out
      go_wp2
      go_ret
      have hB := H.out.at HB6.out HA.out HD.out
      exact ⟨rfl, hB.1, hB.2⟩
end Go.Proofs.Ythiapebodpkamaa

namespace Go.Proofs.Ythiapebodpkamaa
open Go.RowKit
/-- On the way through blockhouseref13.Read: the reader at r, the program at C. -/
structure EReadSt (w W : World) (r C : Nat) (v : Value) (l : List Int) (o : Option (List Int)) (nm : ByteArray) (V B I : Value) (xs : List GVar) (ks : List Int) (is : List GIns) : Prop where
  rd : EyAt W r v l o
  res : W.heap[w.heap.size]? = some (.cells #[.string ⟨#[]⟩, .slice none 0 0, .slice none 0 0, .slice none 0 0] 32 (0, 0))
  row : W.heap[C]? = some (.cells #[.string nm, V, B, I] 32 (0, 0))
  oV : Own 41 4 encVar W (C + 1) V xs
  oB : Own 42 1 oneU8 W (C + 1) B ks
  oI : Own 38 4 encIns W (C + 1) I is
  bel : Below w.heap.size w W
  rw_ : w.heap.size < r
  rC : r < C
  vb : 0 < l.length → ∀ b, v.ownBlock = some b → b < w.heap.size
theorem EReadSt.cells {w W : World} {r C : Nat} {v : Value} {l : List Int} {o : Option (List Int)} {nm : ByteArray} {V B I : Value} {xs : List GVar} {ks : List Int} {is : List GIns} (h : EReadSt w W r C v l o nm V B I xs ks is) : W.cell? ⟨r, 2, none⟩ = some (.bool (match o with | some _ => false | none => true)) := by
  obtain ⟨_, at_, bad, _, hr, hs⟩ := h.rd
  rw [(row3 hr).1.2.2]
  cases o with
  | none => rw [show bad = true from hs]
  | some rest => rw [show bad = false from hs.1]
theorem EReadSt.below {w W W' : World} {r C : Nat} {v : Value} {l : List Int} {o : Option (List Int)} {nm : ByteArray} {V B I : Value} {xs : List GVar} {ks : List Int} {is : List GIns} (h : EReadSt w W r C v l o nm V B I xs ks is) (hb : Below W.heap.size W W') : EReadSt w W' r C v l o nm V B I xs ks is :=
  ⟨h.rd.below hb, (hb.block _ (Array.getElem?_eq_some_iff.1 h.res).1).trans h.res, (hb.block _ (Array.getElem?_eq_some_iff.1 h.row).1).trans h.row, h.oV.below hb, h.oB.below hb, h.oI.below hb, h.bel.trans (hb.mono h.bel.size), h.rw_, h.rC, h.vb⟩
/-- A reading changes the reader alone. -/
theorem EReadSt.read {w W W' : World} {r C : Nat} {v : Value} {l : List Int} {o o' : Option (List Int)} {nm : ByteArray} {V B I : Value} {xs : List GVar} {ks : List Int} {is : List GIns} (h : EReadSt w W r C v l o nm V B I xs ks is) (hr : EyAt W' r v l o') (hg : W.grownBy W' (some r)) : EReadSt w W' r C v l o' nm V B I xs ks is :=
  ⟨hr, grown_row hg h.res (by have := h.rw_; omega), grown_row hg h.row (by have := h.rC; omega), h.oV.grownN hg (by have := h.rC; omega), h.oB.grownN hg (by have := h.rC; omega), h.oI.grownN hg (by have := h.rC; omega), h.bel.grown hg h.bel.size (fun k hk => by cases hk; exact Nat.le_of_lt h.rw_), h.rw_, h.rC, h.vb⟩
/-- What is read in blocks that were there at first is read still, where blocks of the call's own turn. -/
theorem EyAt.kept {W W' : World} {r : Nat} {v : Value} {l : List Int} {o : Option (List Int)} {k : Option Nat} (h : EyAt W r v l o) (hg : W.grownBy W' k) (hv : 0 < l.length → ∀ b, v.ownBlock = some b → k ≠ some b) (hr : k ≠ some r) : EyAt W' r v l o := by
  obtain ⟨⟨h0, A, c, rfl, h2, h4, h3⟩, at_, bad, ha, hr0, hs⟩ := h
  refine ⟨⟨h0, A, c, rfl, h2, h4, fun hp => ?_⟩, at_, bad, ha, ?_, hs⟩
  · obtain ⟨b, off, rfl, hc⟩ := h3 hp
    exact ⟨b, off, rfl, fun j hj i u hu => hg.cell (hc j hj i u hu) (fun e => hv hp b rfl e.symm)⟩
  · rw [hg.block r (Array.getElem?_eq_some_iff.1 hr0).1 (fun e => hr e.symm)]; exact hr0
theorem EyAt.lt {w : World} {r : Nat} {vb : Value} {l : List Int} {o : Option (List Int)} (h : EyAt w r vb l o) : r < w.heap.size := by
  obtain ⟨_, _, _, _, hr, _⟩ := h
  exact (Array.getElem?_eq_some_iff.1 hr).1
theorem EyAt.low {w W W' : World} {r : Nat} {vb : Value} {l : List Int} {o0 o : Option (List Int)} (h0 : EyAt w r vb l o0) (h : EyAt W r vb l o) (hb : Below w.heap.size W W') : EyAt W' r vb l o := by
  obtain ⟨⟨_, A, c, rfl, _, _, hc0⟩, _, _, _, hr0, _⟩ := h0
  obtain ⟨hv, at_, bad, ha, hr, hs⟩ := h
  refine ⟨?_, at_, bad, ha, (hb.block r (Array.getElem?_eq_some_iff.1 hr0).1).trans hr, hs⟩
  obtain ⟨g0, A', c', e, g2, g4, g3⟩ := hv
  cases e
  refine ⟨g0, _, _, rfl, g2, g4, fun hp => ?_⟩
  obtain ⟨b, off, rfl, hc⟩ := g3 hp
  obtain ⟨b2, off2, e2, hc2⟩ := hc0 hp
  cases e2
  exact ⟨b, off, rfl, fun j hj i u hu => (hb.cell (p := ⟨b, off + j * 1 + i, none⟩) (World.block_lt_of_cell? w _ (hc2 j hj i u hu))).trans (hc j hj i u hu)⟩
theorem EReadSt.grewV {w W w1 : World} {r C : Nat} {v : Value} {l : List Int} {o : Option (List Int)} {nm : ByteArray} {V B I : Value} {xs : List GVar} {ks : List Int} {is : List GIns} (h : EReadSt w W r C v l o nm V B I xs ks is) {N : Value} (y : GVar) (own1 : Own 41 4 encVar w1 (C + 1) N (xs ++ [y])) (GR : W.grownBy w1 V.ownBlock) :
    EReadSt w (w1.setCell ⟨C, 1, none⟩ N) r C v l o nm N B I (xs ++ [y]) ks is := by
  have h1 := h
  have hk : ∀ b, V.ownBlock = some b → C + 1 ≤ b := fun b hb => (World.ownsRow.lt h1.oV b hb).1
  have hrC := h1.rC
  have hwr := h1.rw_
  have row1 := row_block GR h1.row (fun e => by have := hk _ e; omega)
  have res1 := row_block GR h1.res (fun e => by have := hk _ e; omega)
  have rd1 := h1.rd.kept GR (fun hp b hb e => by have := hk _ e; have := h1.vb hp b hb; omega) (fun e => by have := hk _ e; omega)
  have bel1 : Below w.heap.size w w1 := h1.bel.grown GR h1.bel.size (fun k hk' => by have := hk k hk'; omega)
  refine ⟨rd1.kept (set_grown w1 C 1 N) (fun hp b hb e => by cases e; have := h1.vb hp _ hb; omega) (fun e => by cases e; omega), row_other N res1 (by omega), set4_1 row1, own1.set row1 (by decide) 1 N, ((h1.oB.grown_other h1.oV (by decide) GR).set row1 (by decide) 1 N), ((h1.oI.grown_other h1.oV (by decide) GR).set row1 (by decide) 1 N), bel1.setCell (p := ⟨C, 1, none⟩) (by show w.heap.size ≤ C; omega) N, hwr, hrC, h1.vb⟩
theorem EReadSt.grewB {w W w1 : World} {r C : Nat} {v : Value} {l : List Int} {o : Option (List Int)} {nm : ByteArray} {V B I : Value} {xs : List GVar} {ks : List Int} {is : List GIns} (h : EReadSt w W r C v l o nm V B I xs ks is) {N : Value} (y : Int) (own1 : Own 42 1 oneU8 w1 (C + 1) N (ks ++ [y])) (GR : W.grownBy w1 B.ownBlock) :
    EReadSt w (w1.setCell ⟨C, 2, none⟩ N) r C v l o nm V N I xs (ks ++ [y]) is := by
  have h1 := h
  have hk : ∀ b, B.ownBlock = some b → C + 1 ≤ b := fun b hb => (World.ownsRow.lt h1.oB b hb).1
  have hrC := h1.rC
  have hwr := h1.rw_
  have row1 := row_block GR h1.row (fun e => by have := hk _ e; omega)
  have res1 := row_block GR h1.res (fun e => by have := hk _ e; omega)
  have rd1 := h1.rd.kept GR (fun hp b hb e => by have := hk _ e; have := h1.vb hp b hb; omega) (fun e => by have := hk _ e; omega)
  have bel1 : Below w.heap.size w w1 := h1.bel.grown GR h1.bel.size (fun k hk' => by have := hk k hk'; omega)
  refine ⟨rd1.kept (set_grown w1 C 2 N) (fun hp b hb e => by cases e; have := h1.vb hp _ hb; omega) (fun e => by cases e; omega), row_other N res1 (by omega), set4_2 row1, ((h1.oV.grown_other h1.oB (by decide) GR).set row1 (by decide) 2 N), own1.set row1 (by decide) 2 N, ((h1.oI.grown_other h1.oB (by decide) GR).set row1 (by decide) 2 N), bel1.setCell (p := ⟨C, 2, none⟩) (by show w.heap.size ≤ C; omega) N, hwr, hrC, h1.vb⟩
theorem EReadSt.grewI {w W w1 : World} {r C : Nat} {v : Value} {l : List Int} {o : Option (List Int)} {nm : ByteArray} {V B I : Value} {xs : List GVar} {ks : List Int} {is : List GIns} (h : EReadSt w W r C v l o nm V B I xs ks is) {N : Value} (y : GIns) (own1 : Own 38 4 encIns w1 (C + 1) N (is ++ [y])) (GR : W.grownBy w1 I.ownBlock) :
    EReadSt w (w1.setCell ⟨C, 3, none⟩ N) r C v l o nm V B N xs ks (is ++ [y]) := by
  have h1 := h
  have hk : ∀ b, I.ownBlock = some b → C + 1 ≤ b := fun b hb => (World.ownsRow.lt h1.oI b hb).1
  have hrC := h1.rC
  have hwr := h1.rw_
  have row1 := row_block GR h1.row (fun e => by have := hk _ e; omega)
  have res1 := row_block GR h1.res (fun e => by have := hk _ e; omega)
  have rd1 := h1.rd.kept GR (fun hp b hb e => by have := hk _ e; have := h1.vb hp b hb; omega) (fun e => by have := hk _ e; omega)
  have bel1 : Below w.heap.size w w1 := h1.bel.grown GR h1.bel.size (fun k hk' => by have := hk k hk'; omega)
  refine ⟨rd1.kept (set_grown w1 C 3 N) (fun hp b hb e => by cases e; have := h1.vb hp _ hb; omega) (fun e => by cases e; omega), row_other N res1 (by omega), set4_3 row1, ((h1.oV.grown_other h1.oI (by decide) GR).set row1 (by decide) 3 N), ((h1.oB.grown_other h1.oI (by decide) GR).set row1 (by decide) 3 N), own1.set row1 (by decide) 3 N, bel1.setCell (p := ⟨C, 3, none⟩) (by show w.heap.size ≤ C; omega) N, hwr, hrC, h1.vb⟩
theorem EReadSt.slices {w W : World} {r C : Nat} {v : Value} {l : List Int} {o : Option (List Int)} {nm : ByteArray} {V B I : Value} {xs : List GVar} {ks : List Int} {is : List GIns} (h : EReadSt w W r C v l o nm V B I xs ks is) : (∃ A n c, V = .slice A n c) ∧ (∃ A n c, B = .slice A n c) ∧ (∃ A n c, I = .slice A n c) := ⟨h.oV.slice, h.oB.slice, h.oI.slice⟩
end Go.Proofs.Ythiapebodpkamaa

namespace Go.Proofs.Ythiapebodpkamaa
def varQ (l : List Int) : Option (GVar × List Int) :=
  (textP l).bind fun p => (numP 255 p.2).bind fun q => (numP 255 q.2).bind fun t => (numP 1099511627776 t.2).bind fun d => some (⟨p.1, (q.1 : Int), (t.1 : Int), loOf t.1 + (d.1 : Int)⟩, d.2)
theorem varQ_mk {v : GVar} (h : OkVar v) (r : List Int) : varQ (varB v ++ r) = some (v, r) := by
  obtain ⟨nm, cls, ty, fst⟩ := v
  obtain ⟨h1, ⟨h2, h2'⟩, ⟨h3, h3'⟩, ⟨h4, h4'⟩⟩ := h
  simp only at h1 h2 h2' h3 h3' h4 h4'
  obtain ⟨c, rfl⟩ : ∃ n : Nat, cls = n := ⟨cls.toNat, by omega⟩
  obtain ⟨t, rfl⟩ : ∃ n : Nat, ty = n := ⟨ty.toNat, by omega⟩
  obtain ⟨d, hd⟩ : ∃ n : Nat, fst - (rangeOf (t : Int)).1 = n := ⟨(fst - (rangeOf (t : Int)).1).toNat, by omega⟩
  have e : varB ⟨nm, c, t, fst⟩ ++ r = uintB (strB nm).length ++ (strB nm ++ (uintB c ++ (uintB t ++ (uintB d ++ r)))) := by
    unfold varB
    simp only [uB_nat, hd, List.append_assoc]
  unfold varQ
  rw [e, textP_mk h1]
  show (numP 255 (uintB c ++ _)).bind _ = _
  rw [numP_mk (by decide) (by omega)]
  show (numP 255 (uintB t ++ _)).bind _ = _
  rw [numP_mk (by decide) (by omega)]
  show (numP 1099511627776 (uintB d ++ _)).bind _ = _
  rw [numP_mk (by decide) (by have := range_bound (t : Int); omega)]
  show some ((⟨nm, (c : Int), (t : Int), loOf t + (d : Int)⟩ : GVar), r) = _
  rw [show loOf t + (d : Int) = fst by unfold loOf; omega]
def insQ (l : List Int) : Option (GIns × List Int) :=
  (numP 255 l).bind fun o => (numP 255 o.2).bind fun t => (numP 5000 t.2).bind fun a => (numP 1099511627776 a.2).bind fun n => some (⟨(o.1 : Int), (t.1 : Int), (a.1 : Int), unzig n.1⟩, n.2)
theorem insQ_mk {i : GIns} (h : OkIns i) (r : List Int) : insQ (insB i ++ r) = some (i, r) := by
  obtain ⟨o, t, a, n⟩ := i
  obtain ⟨⟨h1, h1'⟩, ⟨h2, h2'⟩, ⟨h3, h3'⟩, h4⟩ := h
  simp only at h1 h1' h2 h2' h3 h3' h4
  obtain ⟨o, rfl⟩ : ∃ n : Nat, o = n := ⟨o.toNat, by omega⟩
  obtain ⟨t, rfl⟩ : ∃ n : Nat, t = n := ⟨t.toNat, by omega⟩
  obtain ⟨a, rfl⟩ : ∃ n : Nat, a = n := ⟨a.toNat, by omega⟩
  have hz := zig_nonneg n
  obtain ⟨z, hzn⟩ : ∃ m : Nat, zig n = m := ⟨(zig n).toNat, by omega⟩
  have e : insB ⟨o, t, a, n⟩ ++ r = uintB o ++ (uintB t ++ (uintB a ++ (uintB z ++ r))) := by
    unfold insB
    simp only [uB_nat, hzn, List.append_assoc]
  unfold insQ
  rw [e, numP_mk (by decide) (by omega)]
  show (numP 255 (uintB t ++ _)).bind _ = _
  rw [numP_mk (by decide) (by omega)]
  show (numP 5000 (uintB a ++ _)).bind _ = _
  rw [numP_mk (by decide) (by omega)]
  show (numP 1099511627776 (uintB z ++ _)).bind _ = _
  rw [numP_mk (by decide) (by omega)]
  show some ((⟨(o : Int), (t : Int), (a : Int), unzig z⟩ : GIns), r) = _
  rw [unzig_zig hzn]
def codeQ (l : List Int) : Option (GCode × List Int) :=
  (textP l).bind fun nm => (numP 200 nm.2).bind fun a => (manyP varQ a.1 a.2).bind fun vs => (numP 100 vs.2).bind fun b => (manyP blkP b.1 b.2).bind fun bs => (numP 2000 bs.2).bind fun i => (manyP insQ i.1 i.2).bind fun is => some (⟨nm.1, vs.1, bs.1, is.1⟩, is.2)
theorem codeQ_mk {c : GCode} (h : OkCode c) (r : List Int) : codeQ (codeB c ++ r) = some (c, r) := by
  obtain ⟨nm, vs, bs, is⟩ := c
  obtain ⟨h1, h2, h3, h4, h5, h6, h7⟩ := h
  simp only at h1 h2 h3 h4 h5 h6 h7
  have e : codeB ⟨nm, vs, bs, is⟩ ++ r = uintB (strB nm).length ++ (strB nm ++ (uintB vs.length ++ (vs.flatMap varB ++ (uintB bs.length ++ (bs.flatMap uB ++ (uintB is.length ++ (is.flatMap insB ++ r))))))) := by
    unfold codeB headB
    simp only [uB_nat, List.append_assoc]
  unfold codeQ
  rw [e, textP_mk h1]
  show (numP 200 (uintB vs.length ++ _)).bind _ = _
  rw [numP_mk (by decide) h2]
  show (manyP varQ vs.length (vs.flatMap varB ++ _)).bind _ = _
  rw [manyP_mk (ok := OkVar) (fun x r hx => varQ_mk hx r) vs _ h3]
  show (numP 100 (uintB bs.length ++ _)).bind _ = _
  rw [numP_mk (by decide) h4]
  show (manyP blkP bs.length (bs.flatMap uB ++ _)).bind _ = _
  rw [manyP_mk (ok := fun k => 0 ≤ k ∧ k ≤ 255) (fun x r hx => blkP_mk hx r) bs _ h5]
  show (numP 2000 (uintB is.length ++ _)).bind _ = _
  rw [numP_mk (by decide) h6]
  show (manyP insQ is.length (is.flatMap insB ++ _)).bind _ = _
  rw [manyP_mk (ok := OkIns) (fun x r hx => insQ_mk hx r) is _ h7]
  rfl
theorem code_stepsQ (l : List Int) : ∃ (P1 : Option (ByteArray × List Int)) (N1 : Option (Nat × List Int)) (V : Option (List GVar × List Int)) (N2 : Option (Nat × List Int)) (B : Option (List Int × List Int)) (N3 : Option (Nat × List Int)) (I : Option (List GIns × List Int)),
    P1 = (some l).bind textP ∧ N1 = (P1.map (·.2)).bind (numP 200) ∧ V = (N1.map (·.2)).bind (manyP varQ ((N1.map (·.1)).getD 0)) ∧ N2 = (V.map (·.2)).bind (numP 100) ∧ B = (N2.map (·.2)).bind (manyP blkP ((N2.map (·.1)).getD 0)) ∧ N3 = (B.map (·.2)).bind (numP 2000) ∧ I = (N3.map (·.2)).bind (manyP insQ ((N3.map (·.1)).getD 0)) ∧
    (codeQ l).map (·.2) = I.map (·.2) ∧ ∀ nm xs ks is, (∀ a r, P1 = some (a, r) → nm = a) → (∀ a r, V = some (a, r) → xs = a) → (∀ a r, B = some (a, r) → ks = a) → (∀ a r, I = some (a, r) → is = a) → ∀ c r, codeQ l = some (c, r) → c = ⟨nm, xs, ks, is⟩ := by
  refine ⟨_, _, _, _, _, _, _, rfl, rfl, rfl, rfl, rfl, rfl, rfl, ?_, ?_⟩
  · simp only [Option.bind_some, codeQ]
    cases h1 : textP l with
    | none => simp
    | some p1 =>
      cases h2 : numP 200 p1.2 with
      | none => simp [h2]
      | some p2 =>
        cases h3 : manyP varQ p2.1 p2.2 with
        | none => simp [h2, h3]
        | some p3 =>
          cases h4 : numP 100 p3.2 with
          | none => simp [h2, h3, h4]
          | some p4 =>
            cases h5 : manyP blkP p4.1 p4.2 with
            | none => simp [h2, h3, h4, h5]
            | some p5 =>
              cases h6 : numP 2000 p5.2 with
              | none => simp [h2, h3, h4, h5, h6]
              | some p6 =>
                cases h7 : manyP insQ p6.1 p6.2 with
                | none => simp [h2, h3, h4, h5, h6, h7]
                | some p7 => simp [h2, h3, h4, h5, h6, h7]
  · intro nm xs ks is g1 g3 g5 g7 c r h
    unfold codeQ at h
    obtain ⟨p1, h1, h⟩ := Option.bind_eq_some_iff.1 h
    obtain ⟨p2, h2, h⟩ := Option.bind_eq_some_iff.1 h
    obtain ⟨p3, h3, h⟩ := Option.bind_eq_some_iff.1 h
    obtain ⟨p4, h4, h⟩ := Option.bind_eq_some_iff.1 h
    obtain ⟨p5, h5, h⟩ := Option.bind_eq_some_iff.1 h
    obtain ⟨p6, h6, h⟩ := Option.bind_eq_some_iff.1 h
    obtain ⟨p7, h7, h⟩ := Option.bind_eq_some_iff.1 h
    simp only [Option.bind_some, h1, Option.map_some, h2, Option.getD_some, h3, h4, h5, h6, h7] at g1 g3 g5 g7
    rw [g1 p1.1 p1.2 rfl, g3 p3.1 p3.2 rfl, g5 p5.1 p5.2 rfl, g7 p7.1 p7.2 rfl]
    injection h with h
    injection h with e1 _
    exact e1.symm
theorem var_stepsQ (o : Option (List Int)) : ∃ (P1 : Option (ByteArray × List Int)) (P2 P3 P4 : Option (Nat × List Int)), P1 = o.bind textP ∧ P2 = (P1.map (·.2)).bind (numP 255) ∧ P3 = (P2.map (·.2)).bind (numP 255) ∧ P4 = (P3.map (·.2)).bind (numP (1099511627776)) ∧
    (o.bind varQ).map (·.2) = P4.map (·.2) ∧ (∀ x rest, o.bind varQ = some (x, rest) → (⟨(P1.map (·.1)).getD ⟨#[]⟩, (((P2.map (·.1)).getD 0 : Nat) : Int), (((P3.map (·.1)).getD 0 : Nat) : Int), loOf ((P3.map (·.1)).getD 0) + (((P4.map (·.1)).getD 0 : Nat) : Int)⟩ : GVar) = x) := by
  refine ⟨_, _, _, _, rfl, rfl, rfl, rfl, ?_, ?_⟩
  · cases o with
    | none => rfl
    | some l =>
      simp only [Option.bind_some, varQ]
      cases h1 : textP l with
      | none => simp
      | some p =>
        cases h2 : numP 255 p.2 with
        | none => simp [h2]
        | some q =>
          cases h3 : numP 255 q.2 with
          | none => simp [h2, h3]
          | some t =>
            cases h4 : numP 1099511627776 t.2 with
            | none => simp [h2, h3, h4]
            | some d => simp [h2, h3, h4]
  · intro x rest h
    cases o with
    | none => cases h
    | some l =>
      simp only [Option.bind_some, varQ] at h ⊢
      cases h1 : textP l with
      | none => simp [h1] at h
      | some p =>
        cases h2 : numP 255 p.2 with
        | none => simp [h1, h2] at h
        | some q =>
          cases h3 : numP 255 q.2 with
          | none => simp [h1, h2, h3] at h
          | some t =>
            cases h4 : numP 1099511627776 t.2 with
            | none => simp [h1, h2, h3, h4] at h
            | some d =>
              simp [h1, h2, h3, h4] at h
              simp [h2, h3, h4, h.1]
theorem ins_stepsQ (o : Option (List Int)) : ∃ (P1 P2 P3 P4 : Option (Nat × List Int)), P1 = o.bind (numP 255) ∧ P2 = (P1.map (·.2)).bind (numP 255) ∧ P3 = (P2.map (·.2)).bind (numP 5000) ∧ P4 = (P3.map (·.2)).bind (numP 1099511627776) ∧
    (o.bind insQ).map (·.2) = P4.map (·.2) ∧ (∀ x rest, o.bind insQ = some (x, rest) → (⟨(((P1.map (·.1)).getD 0 : Nat) : Int), (((P2.map (·.1)).getD 0 : Nat) : Int), (((P3.map (·.1)).getD 0 : Nat) : Int), unzig ((P4.map (·.1)).getD 0)⟩ : GIns) = x) := by
  refine ⟨_, _, _, _, rfl, rfl, rfl, rfl, ?_, ?_⟩
  · cases o with
    | none => rfl
    | some l =>
      simp only [Option.bind_some, insQ]
      cases h1 : numP 255 l with
      | none => simp
      | some p =>
        cases h2 : numP 255 p.2 with
        | none => simp [h2]
        | some q =>
          cases h3 : numP 5000 q.2 with
          | none => simp [h2, h3]
          | some t =>
            cases h4 : numP 1099511627776 t.2 with
            | none => simp [h2, h3, h4]
            | some d => simp [h2, h3, h4]
  · intro x rest h
    cases o with
    | none => cases h
    | some l =>
      simp only [Option.bind_some, insQ] at h ⊢
      cases h1 : numP 255 l with
      | none => simp [h1] at h
      | some p =>
        cases h2 : numP 255 p.2 with
        | none => simp [h1, h2] at h
        | some q =>
          cases h3 : numP 5000 q.2 with
          | none => simp [h1, h2, h3] at h
          | some t =>
            cases h4 : numP 1099511627776 t.2 with
            | none => simp [h1, h2, h3, h4] at h
            | some d =>
              simp [h1, h2, h3, h4] at h
              simp [h2, h3, h4, h.1]
def refReadB (l : List Int) : Option GCode := (codeQ l).bind fun q => if q.2 = [] ∧ rightB q.1 = true ∧ codeB q.1 = l then some q.1 else none
theorem refRead_eq {l : List Int} (hb : Bys l) (hq : ∀ c r, codeQ l = some (c, r) → c.Wf) : refReadB l = readB l := by
  cases hr : readB l with
  | some c =>
    obtain ⟨h1, h2, rfl⟩ := read_of hb hr
    unfold refReadB
    have := codeQ_mk h2 []
    rw [List.append_nil] at this
    rw [this]
    exact if_pos ⟨rfl, h1, rfl⟩
  | none =>
    unfold refReadB
    cases hc : codeQ l with
    | none => rfl
    | some q =>
      obtain ⟨c, r⟩ := q
      show (if r = [] ∧ rightB c = true ∧ codeB c = l then some c else none) = none
      by_cases h : r = [] ∧ rightB c = true ∧ codeB c = l
      · obtain ⟨_, h2, h3⟩ := h
        have := read_mk h2 (hq c r hc)
        rw [h3, hr] at this
        cases this
      · exact if_neg h
end Go.Proofs.Ythiapebodpkamaa

