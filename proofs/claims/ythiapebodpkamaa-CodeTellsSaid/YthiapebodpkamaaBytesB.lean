/- Contracts of bytes.Blob and of code.Bytes' put. -/
import Derived.Test.YthiapebodpkamaaBytesA
import Derived.Test.YthiapebodpkamaaData
import Derived.Outline
namespace Go.Proofs.Ythiapebodpkamaa
open Go.RowKit
theorem oneU8_one : ∀ y, ∀ u ∈ oneU8 y, u.oneCell' = true := by
  intro y u hu
  rw [oneU8, List.mem_singleton] at hu
  subst hu
  rfl
set_option maxHeartbeats 1000000 in
set_option maxRecDepth 100000 in
theorem blob_any (base : Nat) (v : Value) (xs : List Int) (u : Value) (ys : List Int) (w : World) (ho : Own 5 1 oneU8 w base v xs) (hr : Rd oneU8 1 w u ys) (hne : ∀ b, u.ownBlock = some b → v.ownBlock ≠ some b) (hb : base ≤ w.heap.size) (hl : xs.length + 10 + ys.length ≤ 140737488355328) :
    Calls Try.prog 52 #[v, u] w fun e w' => ∃ v', e = .returned v' ∧ Own 5 1 oneU8 w' base v' (xs ++ uintB ys.length ++ ys) ∧ Row v w v' w' := by
  obtain ⟨i0, hi, hz0, hz1, hz2⟩ := info_parts Try.infoByte
  have hd := digitsOf_le (n := ys.length) (by omega)
  have hul := uintB_length ys.length
  obtain ⟨A, c, rfl⟩ : ∃ A c', u = .slice A ys.length c' := by obtain ⟨_, A, c', h, _⟩ := hr; exact ⟨A, c', h⟩
  have HO := Fact.mk ho
  have HR := Fact.mk hr
  have HU := Fact.mk hul
  have hL := hr.1
  have hlim : ∀ l : List Int, l.length = digitsOf ys.length → ((xs ++ l).length + ys.length) * 1 ≤ 140737488355328 := by
    intro l h
    rw [List.length_append]
    omega
  clear ho hr hul
  go_enter Try.func52, Try.ntmps52
  go_wp2_with (first | (go_at_call 54; refine (uint_any base _ xs ys.length (by omega) _ HO.out hb (by omega)).mono ?_; rintro e w1 ⟨v1, rfl, ho1, hr1⟩; have HO1 := Fact.mk ho1; have HW1 := Fact.mk hr1; have HR1 := Fact.mk (HR.out.row hr1 hne); have hb1 := Nat.le_trans hb hr1.g.size; clear ho1 hr1) | (at_builtin; refine wpList_append_rd rfl _ _ 62 rfl base 5 i0 (.int .u8 0) 1 1 Try.underlying62 hi hz0 hz1 hz2 rfl (by decide) (by decide) oneU8 oneU8_len oneU8_one _ _ rfl HO1.out _ ys rfl HR1.out (hlim _ HU.out) hb1 ?_))
  intro v' w' ho' hr'
  go_wp2_with fail
  go_ret
  exact ⟨v', rfl, by rw [List.append_assoc]; exact ho', HW1.out.trans hr'⟩
def oneU64 (x : Nat) : List Value := [.int .u64 (x : Int)]
/-- put: each number's bytes are appended to what the cell sb holds. -/
structure PutFrame (base sb : Nat) (w w' : World) : Prop where
  os : w'.os = w.os
  tape : w'.tape = w.tape
  output : w'.output = w.output
  size : w.heap.size ≤ w'.heap.size
  block : ∀ k, k < w.heap.size → k ≠ sb → (k < base ∨ ∀ cur, w.heap[k]? ≠ some (.cells cur 5 (0, 0))) → w'.heap[k]? = w.heap[k]?
theorem PutFrame.refl (base sb : Nat) (w : World) : PutFrame base sb w w := ⟨rfl, rfl, rfl, Nat.le_refl _, fun _ _ _ _ => rfl⟩
theorem PutFrame.trans {base sb : Nat} {a b c : World} (h : PutFrame base sb a b) (k : PutFrame base sb b c) : PutFrame base sb a c :=
  ⟨k.os.trans h.os, k.tape.trans h.tape, k.output.trans h.output, Nat.le_trans h.size k.size, fun i hi hn hc => by
    have e := h.block i hi hn hc
    exact (k.block i (Nat.lt_of_lt_of_le hi h.size) hn (hc.imp id fun hn cur => by rw [e]; exact hn cur)).trans e⟩
theorem PutFrame.of_grow {base sb : Nat} {w w' : World} (h : Grow base 5 w w') : PutFrame base sb w w' := ⟨h.os, h.tape, h.output, h.size, fun k hk _ hc => h.block k hk hc⟩
theorem PutFrame.set (base sb : Nat) (w : World) (u : Value) : PutFrame base sb w (w.setCell ⟨sb, 0, none⟩ u) := ⟨rfl, rfl, rfl, by simp [World.setCell], fun k _ hn _ => Below.heap_setCell w ⟨sb, 0, none⟩ u k hn⟩
theorem PutFrame.below {base sb : Nat} {w0 w w' : World} (h : PutFrame base sb w w') (h0 : Below base w0 w) (hb : base ≤ w.heap.size) (hs : base ≤ sb) : Below base w0 w' :=
  h0.trans ⟨h.os, h.tape, h.output, h.size, fun k hk => h.block k (by omega) (by omega) (.inl hk)⟩
theorem PutFrame.other {base sb : Nat} {w w' : World} (h : PutFrame base sb w w') {k : Nat} {cs : Array Value} {T : TypeId} {fr : Nat × Nat} (hk : w.heap[k]? = some (.cells cs T fr)) (hT : T ≠ 5) (hn : k ≠ sb) : w'.heap[k]? = some (.cells cs T fr) := by
  rw [h.block k (Array.getElem?_eq_some_iff.1 hk).1 hn (.inr fun cur e => by rw [hk] at e; injection e with e; injection e with _ e2 _; exact hT e2)]
  exact hk
def putB (l : List Nat) : List Int := l.flatMap uintB
theorem putB_snoc (l : List Nat) (n : Nat) : putB (l ++ [n]) = putB l ++ uintB n := by simp [putB]
theorem putB_len (l : List Nat) (h : ∀ n ∈ l, n ≤ 18446744073709551615) : (putB l).length ≤ l.length * 10 := by
  induction l with
  | nil => simp [putB]
  | cons n l ih =>
    have h1 := digitsOf_le (n := n) (by have := h n (by simp); omega)
    have h2 := ih (fun x hx => h x (by simp [hx]))
    simp only [putB, List.flatMap_cons, List.length_append, List.length_cons, uintB_length] at *
    omega
theorem cell_of_block {w : World} {g : Nat} {v : Value} {T : TypeId} {fr : Nat × Nat} (h : w.heap[g]? = some (.cells #[v] T fr)) : w.cell? ⟨g, 0, none⟩ = some v := by rw [cell_of_row _ _ 0 _ _ _ h]; rfl
theorem set_block {w : World} {g : Nat} {v u : Value} {T : TypeId} {fr : Nat × Nat} (h : w.heap[g]? = some (.cells #[v] T fr)) : (w.setCell ⟨g, 0, none⟩ u).heap[g]? = some (.cells #[u] T fr) := by
  simp only [World.setCell, Array.getElem?_modify, if_true, h, Option.map_some]
  rfl
set_option maxHeartbeats 2000000 in
set_option maxRecDepth 100000 in
theorem put_any (base sb : Nat) (v : Value) (xs : List Int) (lv : Value) (l : List Nat) (hl64 : ∀ n ∈ l, n ≤ 18446744073709551615) (w : World) (hs : w.heap[sb]? = some (.cells #[v] 62 (0, 0))) (ho : Own 5 1 oneU8 w base v xs) (hr : Rd oneU64 1 w lv l)
    (hlt : ∀ g, lv.ownBlock = some g → g ≠ sb ∧ ∃ cur, w.heap[g]? = some (.cells cur 98 (0, 0))) (hb : base ≤ w.heap.size) (hl : xs.length + l.length * 10 ≤ 140737488355328) :
    Calls Try.prog 53 #[lv, .pointer (some ⟨sb, 0, none⟩)] w fun e w' => e = .returned (.tuple #[]) ∧ ∃ v', w'.heap[sb]? = some (.cells #[v'] 62 (0, 0)) ∧ Own 5 1 oneU8 w' base v' (xs ++ putB l) ∧ PutFrame base sb w w' := by
  obtain ⟨hmax, A, c, rfl, hcap, _, hcell⟩ := hr
  have HC := Fact.mk hcell
  have H64 := Fact.mk hl64
  have HS := Fact.mk hs
  have HO := Fact.mk ho
  have HT := Fact.mk hlt
  clear hcell hl64 hs ho hlt
  go_enter Try.func53, Try.ntmps53
  go_wp2_with fail
  go_loopw [7] (fun i wr => ∃ k : Nat, k ≤ l.length ∧ i = .int .i64 k ∧ Fact (PutFrame base sb w wr) ∧ Fact (∃ u, wr.heap[sb]? = some (.cells #[u] 62 (0, 0)) ∧ Own 5 1 oneU8 wr base u (xs ++ putB (l.take k)))) (fun i _ => l.length - (intOf i).toNat)
  case atStart => exact ⟨0, Nat.zero_le _, rfl, ⟨PutFrame.refl _ _ _⟩, ⟨v, HS.out, by simpa [putB] using HO.out⟩⟩
  case round =>
    obtain ⟨k, hk, rfl, hfr, ⟨u, hu, hown⟩⟩ := hrel
    by_cases hlt : k < l.length
    · obtain ⟨b, off, rfl, hcl⟩ := HC.out (by omega)
      obtain ⟨hbs, cur, hbt⟩ := HT.out b rfl
      have hc0 : wr.cell? ⟨b, off + k, none⟩ = some (.int .u64 (l[k] : Int)) := by
        have h1 := hcl k hlt 0 _ rfl
        have h2 := hfr.out.other hbt (by decide) hbs
        rw [World.cell?_of_block (w := w) (a := ⟨b, off + k, none⟩) (h2.trans hbt.symm)]
        simpa using h1
      have cu := cell_of_block hu
      have fu : wr.frozen? ⟨sb, 0, none⟩ = false := frozen_of_row wr sb 0 _ _ hu
      have hn := H64.out l[k] (List.getElem_mem hlt)
      have HN := Fact.mk hn
      have hlen := putB_len (l.take k) (fun n h => H64.out n (List.mem_of_mem_take h))
      rw [List.length_take, Nat.min_eq_left hk] at hlen
      have hsn := putB_snoc (l.take k) l[k]
      rw [← List.take_succ_eq_append_getElem hlt] at hsn
      have HSN := Fact.mk hsn
      have HU := Fact.mk hu
      have HW := Fact.mk hown
      generalize l[k] = q at hc0 HN HSN
      clear hcl hn hsn hu hown hbt
      have hsz := Nat.le_trans hb hfr.out.size
      go_wp2_with (go_at_call 54; refine (uint_any base _ _ q HN.out _ HW.out hsz (by rw [List.length_append]; omega)).mono ?_; rintro e w1 ⟨v1, rfl, ho1, hr1⟩; obtain ⟨A1, n1, c1, rfl⟩ := ho1.slice; have HG := Fact.mk (hr1.grow HW.out); have HO1 := Fact.mk ho1; have HU1 := Fact.mk (HG.out.other HU.out (by decide)); have cu1 := cell_of_block HU1.out; have fu1 : w1.frozen? ⟨sb, 0, none⟩ = false := frozen_of_row w1 sb 0 _ _ HU1.out; clear ho1 hr1)
      go_roundw
      case rel => exact ⟨k + 1, by omega, by go_num, ⟨hfr.out.trans ((PutFrame.of_grow HG.out).trans (PutFrame.set _ _ _ _))⟩, ⟨_, set_block HU1.out, by rw [HSN.out, ← List.append_assoc]; exact HO1.out.set HU1.out (by decide) 0 _⟩⟩
      case measure => simp [intOf]; omega
    · obtain rfl : k = l.length := by omega
      rw [List.take_length] at hown
      have HU := Fact.mk hu
      have HW := Fact.mk hown
      clear hu hown
      go_wp2_with fail
      go_end0
      exact ⟨rfl, u, HU.out, HW.out, hfr.out⟩
end Go.Proofs.Ythiapebodpkamaa

