/- put, as code.Bytes calls it. -/
import Derived.Test.YthiapebodpkamaaBytesB
import Derived.Test.YthiapebodpkamaaConv
namespace Go.Proofs.Ythiapebodpkamaa
open Go.RowKit
structure BSt (w0 : World) (base sb : Nat) (xs : List Int) (W : World) : Prop where
  bel : Below base w0 W
  out : ∃ v, W.heap[sb]? = some (.cells #[v] 62 (0, 0)) ∧ Own 5 1 oneU8 W base v xs
  lb : base ≤ W.heap.size
  sbb : base ≤ sb
theorem BSt.mono {w0 : World} {base sb : Nat} {xs : List Int} {W W' : World} (h : BSt w0 base sb xs W) (hb : Below W.heap.size W W') : BSt w0 base sb xs W' := by
  obtain ⟨v, h1, h2⟩ := h.out
  refine ⟨h.bel.trans (hb.mono h.lb), ⟨v, ?_, h2.below hb⟩, Nat.le_trans h.lb hb.size, h.sbb⟩
  rw [hb.block sb (Array.getElem?_eq_some_iff.1 h1).1]; exact h1
theorem oneU64_len (x : Nat) : (oneU64 x).length = 1 := rfl
theorem put_new (w0 : World) (base sb : Nat) (xs : List Int) (W : World) (hB : BSt w0 base sb xs W) (l : List Nat) (hl64 : ∀ n ∈ l, n ≤ 18446744073709551615) (hl : xs.length + l.length * 10 ≤ 140737488355328) :
    Calls Try.prog 53 #[.slice (some ⟨W.heap.size, 0, none⟩) l.length l.length, .pointer (some ⟨sb, 0, none⟩)] (W.alloc (.cells (l.flatMap oneU64).toArray 98)) fun e w' => e = .returned (.tuple #[]) ∧ BSt w0 base sb (xs ++ putB l) w' ∧ PutFrame base sb W w' := by
  obtain ⟨v, h1, h2⟩ := hB.out
  obtain ⟨b1, b2, b3⟩ := one_block W (.cells (l.flatMap oneU64).toArray 98)
  have hlt : sb < W.heap.size := (Array.getElem?_eq_some_iff.1 h1).1
  have hlen : (l.flatMap oneU64).length = l.length * 1 := flatMap_len (enc := oneU64) (k := 1) (fun _ => rfl) l
  have hown : Own 98 1 oneU64 (W.alloc (.cells (l.flatMap oneU64).toArray 98)) W.heap.size (.slice (some ⟨W.heap.size, 0, none⟩) l.length l.length) l :=
    ⟨hlen, .inr ⟨W.heap.size, l.length, _, rfl, Nat.le_refl _, b2, Nat.le_refl _, by simp only [maxLen]; omega, by simpa using hlen, List.take_of_length_le (by rw [← hlen]; exact Nat.le_refl _)⟩⟩
  refine (put_any base sb v xs _ l hl64 _ ?_ (h2.below b1) (hown.rd oneU64_len) ?_ (by rw [b3]; have := hB.lb; omega) hl).mono ?_
  · rw [b1.block sb hlt]; exact h1
  · intro g hg
    have : W.heap.size = g := by simpa [Value.ownBlock] using hg
    subst this
    exact ⟨by omega, _, b2⟩
  · rintro e w' ⟨rfl, v', h3, h4, h5⟩
    have hpf : PutFrame base sb W w' := ⟨h5.os.trans b1.os, h5.tape.trans b1.tape, h5.output.trans b1.output, Nat.le_trans b1.size h5.size, fun k hk hn hc => by
      have e := b1.block k hk
      exact (h5.block k (by rw [b3]; omega) hn (hc.imp id fun hn cur => by rw [e]; exact hn cur)).trans e⟩
    exact ⟨rfl, ⟨hpf.below hB.bel hB.lb hB.sbb, ⟨v', h3, h4⟩, Nat.le_trans hB.lb hpf.size, hB.sbb⟩, hpf⟩
/-- A number that may be put. -/
def U64 (n : Int) : Prop := 0 ≤ n ∧ n ≤ 18446744073709551615
theorem U64.cast {n : Int} (h : U64 n) : ((n.toNat : Nat) : Int) = n := by have := h.1; omega
theorem U64.le {n : Int} (h : U64 n) : n.toNat ≤ 18446744073709551615 := by obtain ⟨_, _⟩ := h; omega
def uB (n : Int) : List Int := uintB n.toNat
theorem put1 (w0 : World) (base sb : Nat) (xs : List Int) (W : World) (hB : BSt w0 base sb xs W) (a : Int) (ha : U64 a) (hl : xs.length + 10 ≤ 140737488355328) :
    Calls Try.prog 53 #[.slice (some ⟨W.heap.size, 0, none⟩) 1 1, .pointer (some ⟨sb, 0, none⟩)] (W.alloc (.cells #[.int .u64 a] 98)) fun e w' => e = .returned (.tuple #[]) ∧ BSt w0 base sb (xs ++ uB a) w' ∧ PutFrame base sb W w' := by
  have h := put_new w0 base sb xs W hB [a.toNat] (by intro n hn; rw [List.mem_singleton] at hn; subst hn; exact ha.le) (by simpa using hl)
  have e1 : ([a.toNat].flatMap oneU64).toArray = #[.int .u64 a] := by simp [oneU64, ha.cast]
  have e2 : putB [a.toNat] = uB a := by simp [putB, uB]
  rw [e1, e2] at h
  exact h
theorem put3 (w0 : World) (base sb : Nat) (xs : List Int) (W : World) (hB : BSt w0 base sb xs W) (a b c : Int) (ha : U64 a) (hb : U64 b) (hc : U64 c) (hl : xs.length + 30 ≤ 140737488355328) :
    Calls Try.prog 53 #[.slice (some ⟨W.heap.size, 0, none⟩) 3 3, .pointer (some ⟨sb, 0, none⟩)] (W.alloc (.cells #[.int .u64 a, .int .u64 b, .int .u64 c] 98)) fun e w' => e = .returned (.tuple #[]) ∧ BSt w0 base sb (xs ++ (uB a ++ uB b ++ uB c)) w' ∧ PutFrame base sb W w' := by
  have h := put_new w0 base sb xs W hB [a.toNat, b.toNat, c.toNat] (by intro n hn; simp only [List.mem_cons, List.not_mem_nil, or_false] at hn; rcases hn with rfl | rfl | rfl <;> first | exact ha.le | exact hb.le | exact hc.le) (by simpa using hl)
  have e1 : ([a.toNat, b.toNat, c.toNat].flatMap oneU64).toArray = #[.int .u64 a, .int .u64 b, .int .u64 c] := by simp [oneU64, ha.cast, hb.cast, hc.cast]
  have e2 : putB [a.toNat, b.toNat, c.toNat] = uB a ++ uB b ++ uB c := by simp [putB, uB]
  rw [e1, e2] at h
  exact h
theorem put4 (w0 : World) (base sb : Nat) (xs : List Int) (W : World) (hB : BSt w0 base sb xs W) (a b c d : Int) (ha : U64 a) (hb : U64 b) (hc : U64 c) (hd : U64 d) (hl : xs.length + 40 ≤ 140737488355328) :
    Calls Try.prog 53 #[.slice (some ⟨W.heap.size, 0, none⟩) 4 4, .pointer (some ⟨sb, 0, none⟩)] (W.alloc (.cells #[.int .u64 a, .int .u64 b, .int .u64 c, .int .u64 d] 98)) fun e w' => e = .returned (.tuple #[]) ∧ BSt w0 base sb (xs ++ (uB a ++ uB b ++ uB c ++ uB d)) w' ∧ PutFrame base sb W w' := by
  have h := put_new w0 base sb xs W hB [a.toNat, b.toNat, c.toNat, d.toNat] (by intro n hn; simp only [List.mem_cons, List.not_mem_nil, or_false] at hn; rcases hn with rfl | rfl | rfl | rfl <;> first | exact ha.le | exact hb.le | exact hc.le | exact hd.le) (by simpa using hl)
  have e1 : ([a.toNat, b.toNat, c.toNat, d.toNat].flatMap oneU64).toArray = #[.int .u64 a, .int .u64 b, .int .u64 c, .int .u64 d] := by simp [oneU64, ha.cast, hb.cast, hc.cast, hd.cast]
  have e2 : putB [a.toNat, b.toNat, c.toNat, d.toNat] = uB a ++ uB b ++ uB c ++ uB d := by simp [putB, uB]
  rw [e1, e2] at h
  exact h
end Go.Proofs.Ythiapebodpkamaa

