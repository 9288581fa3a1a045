/- A reader of bytes: how it lies in memory; reader.number and reader.text. -/
import Derived.Test.YthiapebodpkamaaGetB
import Derived.Test.YthiapebodpkamaaReadC
import Derived.Deep.RegionHeld3
import Derived.Deep.DeepCutAuto
namespace Go.Proofs.Ythiapebodpkamaa
open Go.RowKit
/-- A reader at block r of the bytes l: what is left, or nothing if it has failed. -/
def RdAt (W : World) (r : Nat) (vb : Value) (l : List Int) (o : Option (List Int)) : Prop :=
  Rd oneU8 1 W vb l ∧ ∃ (at_ : Nat) (bad : Bool), at_ ≤ l.length ∧ W.heap[r]? = some (.cells #[vb, .int .i64 (at_ : Int), .bool bad] 105 (0, 0)) ∧ (match o with | some rest => bad = false ∧ l.drop at_ = rest | none => bad = true)
theorem row3 {w : World} {g : Nat} {a b c : Value} {T : TypeId} (h : w.heap[g]? = some (.cells #[a, b, c] T (0, 0))) : (w.cell? ⟨g, 0, none⟩ = some a ∧ w.cell? ⟨g, 1, none⟩ = some b ∧ w.cell? ⟨g, 2, none⟩ = some c) ∧ (w.frozen? ⟨g, 0, none⟩ = false ∧ w.frozen? ⟨g, 1, none⟩ = false ∧ w.frozen? ⟨g, 2, none⟩ = false) :=
  ⟨⟨by rw [cell_of_row _ _ 0 _ _ _ h]; rfl, by rw [cell_of_row _ _ 1 _ _ _ h]; rfl, by rw [cell_of_row _ _ 2 _ _ _ h]; rfl⟩, frozen_of_row _ _ 0 _ _ h, frozen_of_row _ _ 1 _ _ h, frozen_of_row _ _ 2 _ _ h⟩
theorem rdr_slice {w : World} {v : Value} {l : List Int} (h : Rd oneU8 1 w v l) : ∃ A n c, v = .slice A n c := by obtain ⟨_, A, c, h, _⟩ := h; exact ⟨A, _, c, h⟩
/-- Bytes are read as before where only a reader's row has turned. -/
theorem Rd.rdr {w w' : World} {r : Nat} {v : Value} {A : Option Addr} {n c : Nat} {a : Int} {b : Bool} {T : TypeId} {l : List Int} (h : Rd oneU8 1 w v l) (hr : w.heap[r]? = some (.cells #[.slice A n c, .int .i64 a, .bool b] T (0, 0))) (hg : w.grownBy w' (some r)) : Rd oneU8 1 w' v l := by
  obtain ⟨h0, A', c', rfl, h2, h4, h3⟩ := h
  refine ⟨h0, _, _, rfl, h2, h4, fun hp => ?_⟩
  obtain ⟨b', off, e, hc⟩ := h3 hp
  refine ⟨b', off, e, fun j hj i u hu => hg.cell (hc j hj i u hu) (fun e2 => ?_)⟩
  have hcell := hc j hj i u hu
  have e3 : b' = r := by
    cases e2
    rfl
  subst e3
  rw [cell_of_row _ _ _ _ _ _ hr] at hcell
  have hi : i = 0 := by have := (List.getElem?_eq_some_iff.1 hu).1; simp [oneU8] at this; exact this
  subst hi
  simp [oneU8] at hu
  subst hu
  generalize off + j * 1 + 0 = k at hcell
  match k, hcell with
  | 0, h => simp at h
  | 1, h => simp at h
  | 2, h => simp at h
  | k + 3, h => simp at h
theorem set3_1 {w : World} {g : Nat} {a b c u : Value} {T : TypeId} {fr : Nat × Nat} (h : w.heap[g]? = some (.cells #[a, b, c] T fr)) : (w.setCell ⟨g, 1, none⟩ u).heap[g]? = some (.cells #[a, u, c] T fr) := by
  simp only [World.setCell, Array.getElem?_modify, if_true, h, Option.map_some]
  rfl
theorem set3_2 {w : World} {g : Nat} {a b c u : Value} {T : TypeId} {fr : Nat × Nat} (h : w.heap[g]? = some (.cells #[a, b, c] T fr)) : (w.setCell ⟨g, 2, none⟩ u).heap[g]? = some (.cells #[a, b, u] T fr) := by
  simp only [World.setCell, Array.getElem?_modify, if_true, h, Option.map_some]
  rfl
theorem set_grown (w : World) (g j : Nat) (u : Value) : w.grownBy (w.setCell ⟨g, j, none⟩ u) (some g) :=
  ⟨rfl, rfl, rfl, by simp, fun i hi hne => Below.heap_setCell w ⟨g, j, none⟩ u i (fun e => hne (by rw [e]))⟩
theorem RdAt.bad {w w1 : World} {r : Nat} {vb : Value} {l : List Int} {o : Option (List Int)} (h : RdAt w r vb l o) (hb : Below w.heap.size w w1) : RdAt (w1.setCell ⟨r, 2, none⟩ (.bool true)) r vb l none ∧ w.grownBy (w1.setCell ⟨r, 2, none⟩ (.bool true)) (some r) := by
  obtain ⟨hv, at_, bad, ha, hr, _⟩ := h
  obtain ⟨A, n, c, rfl⟩ := rdr_slice hv
  have hr1 := (hb.block r (Array.getElem?_eq_some_iff.1 hr).1).trans hr
  have hg := grown_trans (grown_below hb (some r)) (set_grown w1 r 2 (.bool true))
  exact ⟨⟨hv.rdr hr hg, at_, true, ha, set3_2 hr1, rfl⟩, hg⟩
theorem RdAt.at {w w1 : World} {r : Nat} {vb : Value} {l rest : List Int} (h : RdAt w r vb l (some rest)) (hb : Below w.heap.size w w1) {a2 : Nat} (h2 : a2 ≤ l.length) {rest2 : List Int} (h3 : l.drop a2 = rest2) : RdAt (w1.setCell ⟨r, 1, none⟩ (.int .i64 (a2 : Int))) r vb l (some rest2) ∧ w.grownBy (w1.setCell ⟨r, 1, none⟩ (.int .i64 (a2 : Int))) (some r) := by
  obtain ⟨hv, at_, bad, ha, hr, h5, _⟩ := h
  obtain ⟨A, n, c, rfl⟩ := rdr_slice hv
  subst h5
  have hr1 := (hb.block r (Array.getElem?_eq_some_iff.1 hr).1).trans hr
  have hg := grown_trans (grown_below hb (some r)) (set_grown w1 r 1 (.int .i64 (a2 : Int)))
  exact ⟨⟨hv.rdr hr hg, a2, false, h2, set3_1 hr1, rfl, h3⟩, hg⟩
theorem RdAt.below {w w1 : World} {r : Nat} {vb : Value} {l : List Int} {o : Option (List Int)} (h : RdAt w r vb l o) (hb : Below w.heap.size w w1) : RdAt w1 r vb l o := by
  obtain ⟨hv, at_, bad, ha, hr, h5⟩ := h
  exact ⟨hv.below hb, at_, bad, ha, (hb.block r (Array.getElem?_eq_some_iff.1 hr).1).trans hr, h5⟩
def NumPost (w : World) (r : Nat) (vb : Value) (l : List Int) (p : Option (Nat × List Int)) (e : Ending) (w' : World) : Prop :=
  e = .returned (.int .u64 (((p.map (·.1)).getD 0 : Nat) : Int)) ∧ RdAt w' r vb l (p.map (·.2)) ∧ w.grownBy w' (some r)
set_option maxHeartbeats 4000000 in
set_option maxRecDepth 100000 in
theorem number_any (w : World) (r : Nat) (vb : Value) (l : List Int) (hb : Bys l) (o : Option (List Int)) (h : RdAt w r vb l o) (most : Nat) :
    Calls Try.prog 59 #[.pointer (some ⟨r, 0, none⟩), .int .u64 (most : Int)] w (NumPost w r vb l (o.bind (numP most))) := by
  obtain ⟨hv, at_, bad, ha, hr, hs⟩ := id h
  obtain ⟨A, n, c, rfl⟩ := rdr_slice hv
  obtain ⟨⟨k0, k1, k2⟩, f0, f1, f2⟩ := row3 hr
  have H := Fact.mk h
  cases o with
  | none =>
    obtain rfl : bad = true := hs
    clear h hv hr
    go_enter Try.func59, Try.ntmps59
    go_wp2
    go_ret
    exact ⟨rfl, H.out, grown_below (Below.refl _ _) _⟩
  | some rest =>
    obtain ⟨rfl, hd⟩ := hs
    have HG := fun n => Fact.mk (getUint_any (w.drewN n) _ l (hv.move fun _ _ h => h) hb at_ ha)
    rw [hd] at HG
    show Calls _ _ _ _ (NumPost w r _ l (numP most rest))
    have HNP : Fact (numP most rest = match getU rest with | some (n, r) => if n ≤ most then some (n, r) else none | none => none) := ⟨rfl⟩
    obtain ⟨p, hp⟩ : ∃ p, numP most rest = p := ⟨_, rfl⟩
    obtain ⟨g, hg⟩ : ∃ g, getU rest = g := ⟨_, rfl⟩
    rw [hp] at HNP ⊢
    rw [hg] at HG HNP
    have CONJ : Fact (∀ W : World, Fact (∃ n, W = w.drewN n) → W.cell? ⟨r, 0, none⟩ = some (.slice A n c) ∧ W.cell? ⟨r, 1, none⟩ = some (.int .i64 (at_ : Int)) ∧ Fact (∃ n, W = w.drewN n)) := ⟨fun W hW => by
      obtain ⟨n, rfl⟩ := hW.out
      exact ⟨k0, k1, hW⟩⟩
    have HG2 : Fact (∀ W : World, Fact (∃ n, W = w.drewN n) → Calls Try.prog 86 #[.slice A n c, .int .i64 (at_ : Int)] W (GetPost W l g)) := ⟨fun W hW => by
      obtain ⟨n, rfl⟩ := hW.out
      exact (HG n).out⟩
    clear h hv hr hd hp hg HG f0
    go_enter Try.func59, Try.ntmps59
    cases g with
    | none =>
      obtain rfl := HNP.out
      go_wp2_with fail
      go_region_held3 (fun W => W.cell? ⟨r, 0, none⟩ = some (.slice A n c) ∧ W.cell? ⟨r, 1, none⟩ = some (.int .i64 (at_ : Int)) ∧ Fact (∃ n, W = w.drewN n))
        (first | exact CONJ.out _ ⟨⟨1, rfl⟩⟩ | assumption)
        (first | (go_at_call 86; (with_reducible refine (HG2.out _ (by first | exact ⟨⟨1, rfl⟩⟩ | assumption)).mono ?_); rintro e W6 ⟨rfl, er, he, rfl⟩))
      rename_i hh
      have e1 : (er != 0) = true := bne_iff_ne.2 he
      clear hh he HG2 CONJ HNP
      go_wp2
      go_ret
      have hB := H.out.bad (Below.refl _ _)
      exact ⟨rfl, hB.1.below (Below.refl _ _).drew, grown_trans hB.2 (grown_below (Below.refl _ _).drew _)⟩
    | some q =>
      obtain ⟨m, rest2⟩ := q
      go_wp2_with fail
      go_region_held3 (fun W => W.cell? ⟨r, 0, none⟩ = some (.slice A n c) ∧ W.cell? ⟨r, 1, none⟩ = some (.int .i64 (at_ : Int)) ∧ Fact (∃ n, W = w.drewN n))
        (first | exact CONJ.out _ ⟨⟨1, rfl⟩⟩ | assumption)
        (first | (go_at_call 86; (with_reducible refine (HG2.out _ (by first | exact ⟨⟨1, rfl⟩⟩ | assumption)).mono ?_); rintro e W6 ⟨rfl, a2, ha2, hd2, rfl⟩))
      rename_i hh
      have HA := Fact.mk ha2
      have HD := Fact.mk hd2
      clear hh HG2 CONJ ha2 hd2
      by_cases hmm : m ≤ most
      · have hp : p = some (m, rest2) := by rw [HNP.out]; exact if_pos hmm
        subst hp
        have e1 : decide ((most : Int) < (m : Int)) = false := decide_eq_false (by omega)
        have e2 : decide (most < m) = false := decide_eq_false (by omega)
        clear HNP hmm
        go_wp2
        go_ret
        have hB := H.out.at (Below.refl _ _) HA.out HD.out
        exact ⟨rfl, hB.1.below (Below.refl _ _).drew, grown_trans hB.2 (grown_below (Below.refl _ _).drew _)⟩
      · have hp : p = none := by rw [HNP.out]; exact if_neg hmm
        subst hp
        have e1 : decide ((most : Int) < (m : Int)) = true := decide_eq_true (by omega)
        have e2 : decide (most < m) = true := decide_eq_true (by omega)
        clear HNP hmm
        go_wp2
        go_ret
        have hB := H.out.bad (Below.refl _ _)
        exact ⟨rfl, hB.1.below (Below.refl _ _).drew, grown_trans hB.2 (grown_below (Below.refl _ _).drew _)⟩
theorem text_is (l : List Int) : textP l = (blobP 40 l).map fun p => (strOfNums p.1, p.2) := by
  unfold textP blobP numP
  cases hg : getU l with
  | none => rfl
  | some q =>
    obtain ⟨n, r⟩ := q
    show ((if n ≤ 40 then some (n, r) else none).bind fun p => if p.1 ≤ p.2.length then some (strOfNums (p.2.take p.1), p.2.drop p.1) else none) = (if n ≤ 40 ∧ n ≤ r.length then some (r.take n, r.drop n) else none).map _
    by_cases h1 : n ≤ 40
    · rw [if_pos h1]
      by_cases h2 : n ≤ r.length
      · rw [if_pos ⟨h1, h2⟩]; exact if_pos h2
      · rw [if_neg (fun h => h2 h.2)]; exact if_neg h2
    · rw [if_neg h1, if_neg (fun h => h1 h.1)]; rfl
def TextPost (w : World) (r : Nat) (vb : Value) (l : List Int) (p : Option (ByteArray × List Int)) (e : Ending) (w' : World) : Prop :=
  e = .returned (.string ((p.map (·.1)).getD ⟨#[]⟩)) ∧ RdAt w' r vb l (p.map (·.2)) ∧ w.grownBy w' (some r)
set_option maxHeartbeats 4000000 in
set_option maxRecDepth 100000 in
theorem text_any (w : World) (r : Nat) (vb : Value) (l : List Int) (hb : Bys l) (o : Option (List Int)) (h : RdAt w r vb l o) :
    Calls Try.prog 58 #[.pointer (some ⟨r, 0, none⟩)] w (TextPost w r vb l (o.bind textP)) := by
  obtain ⟨hv, at_, bad, ha, hr, hs⟩ := id h
  obtain ⟨A, n, c, rfl⟩ := rdr_slice hv
  obtain ⟨⟨k0, k1, k2⟩, f0, f1, f2⟩ := row3 hr
  have H := Fact.mk h
  cases o with
  | none =>
    obtain rfl : bad = true := hs
    clear h hv hr
    go_enter Try.func58, Try.ntmps58
    go_wp2
    go_ret
    exact ⟨rfl, H.out, grown_below (Below.refl _ _) _⟩
  | some rest =>
    obtain ⟨rfl, hd⟩ := hs
    have HG := fun (W : World) (hW : Below w.heap.size w W) => Fact.mk (getBlob_any W _ l (hv.below hW) hb at_ ha 40 (by decide))
    rw [hd] at HG
    show Calls _ _ _ _ (TextPost w r _ l (textP rest))
    have HTI := Fact.mk (text_is rest)
    obtain ⟨p, hp⟩ : ∃ p, textP rest = p := ⟨_, rfl⟩
    obtain ⟨g, hg⟩ : ∃ g, blobP 40 rest = g := ⟨_, rfl⟩
    rw [hp] at HTI ⊢
    rw [hg] at HG HTI
    have HROW := Fact.mk hr
    have hlt := (Array.getElem?_eq_some_iff.1 hr).1
    have CONJ : Fact (∀ W : World, Fact (Below w.heap.size w W) → W.cell? ⟨r, 0, none⟩ = some (.slice A n c) ∧ W.cell? ⟨r, 1, none⟩ = some (.int .i64 (at_ : Int)) ∧ Fact (Below w.heap.size w W)) := ⟨fun W hW => by
      have := (row3 ((hW.out.block r hlt).trans HROW.out)).1
      exact ⟨this.1, this.2.1, hW⟩⟩
    have HG2 : Fact (∀ W : World, Fact (Below w.heap.size w W) → Calls Try.prog 85 #[.slice A n c, .int .i64 (at_ : Int), .int .i64 40] W (BlobPost W l g)) := ⟨fun W hW => (HG W hW.out).out⟩
    clear h hv hr hd hp hg HG f0 f1 f2
    go_enter Try.func58, Try.ntmps58
    cases g with
    | none =>
      obtain rfl := HTI.out
      go_wp2_with fail
      go_region_held3 (fun W => W.cell? ⟨r, 0, none⟩ = some (.slice A n c) ∧ W.cell? ⟨r, 1, none⟩ = some (.int .i64 (at_ : Int)) ∧ Fact (Below w.heap.size w W))
        (first | exact CONJ.out _ ⟨(Below.refl _ _).drew⟩ | assumption)
        (first | (go_at_call 85; (with_reducible refine (HG2.out _ (by first | exact ⟨(Below.refl _ _).drew⟩ | assumption)).mono ?_); rintro e W6 ⟨er, he, rfl, rfl⟩))
      rename_i hh
      have e1 : (er != 0) = true := bne_iff_ne.2 he
      obtain ⟨-, f1, f2⟩ := row3 HROW.out
      clear hh he HG2 CONJ HTI HROW
      go_wp2
      go_ret
      have hB := H.out.bad (Below.refl _ _)
      exact ⟨rfl, hB.1.below (Below.refl _ _).drew, grown_trans hB.2 (grown_below (Below.refl _ _).drew _)⟩
    | some q =>
      obtain ⟨sb, rest2⟩ := q
      obtain rfl := HTI.out
      go_wp2_with fail
      go_region_held3 (fun W => W.cell? ⟨r, 0, none⟩ = some (.slice A n c) ∧ W.cell? ⟨r, 1, none⟩ = some (.int .i64 (at_ : Int)) ∧ Fact (Below w.heap.size w W))
        (first | exact CONJ.out _ ⟨(Below.refl _ _).drew⟩ | exact CONJ.out _ (by assumption) | assumption)
        (first | (go_at_call 85; (with_reducible refine (HG2.out _ (by first | exact ⟨(Below.refl _ _).drew⟩ | assumption)).mono ?_); rintro e W6 ⟨v6, a2, ha2, hd2, rfl, hv6, hb6⟩; have HB6 : Fact (Below w.heap.size w W6) := ⟨((Below.refl _ _).drew).trans (hb6.mono (Nat.le_refl _))⟩; have HV6 := Fact.mk hv6; clear hv6 hb6))
      rename_i hh
      obtain ⟨-, f1, f2⟩ := row3 ((HB6.out.block r hlt).trans HROW.out)
      have hB := H.out.at HB6.out ha2 hd2
      obtain ⟨h7, h8, -⟩ := hh
      have hconv := conv_back (P := Try.prog) (HV6.out.rdr ((HB6.out.block r hlt).trans HROW.out) (set_grown W6 r 1 (.int .i64 (a2 : Int)))) 62 9 5 Try.underlying62 Try.underlying5 Try.underlying9
      have HB := Fact.mk hB
      obtain ⟨A6, n6, c6, rfl⟩ := rdr_slice HV6.out
      clear HG2 CONJ HTI HROW HV6 hB ha2 hd2
      go_wp2
      go_ret
      exact ⟨rfl, HB.out.1, HB.out.2⟩
end Go.Proofs.Ythiapebodpkamaa

