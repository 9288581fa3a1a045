/- Contracts of slices.IndexFunc and slices.ContainsFunc, for any function value that keeps an invariant. Printed by gen_idx.py. -/
import Derived.Test.YthiapebodpkamaaData
import Derived.Test.YthiapebodpkamaaProg
import Derived.Deep.LoopGhost
import Derived.Shelf.Abstract
namespace Go.Proofs.Ythiapebodpkamaa
open Go.RowKit
set_option maxHeartbeats 2000000 in
theorem idxVar_any (I : Nat → World → Prop) (p : Nat → Bool) (g : Nat) (lb : Array Value) (eg : ∀ args w, (callFunc g args).run Try.prog w = .ok (.enter g args) w) (v : Value) (xs : List GVar) (w : World)
    (h0 : I 0 w) (hR : ∀ j W, I j W → Rd encVar 4 W v xs) (hp : ∀ j (h : j < xs.length) W, I j W → Calls Try.prog g (#[(.agg (encVar xs[j]).toArray)] ++ lb) W fun e w' => e = .returned (.bool (p j)) ∧ I (j + 1) w') :
    Calls Try.prog 68 #[v, .func (.func g) #[] lb] w fun e w' => e = .returned (.int .i64 (idxFrom p xs.length 0)) ∧ ∃ j, I j w' := by
  obtain ⟨hmax, A, c, rfl, hc, hcell⟩ := hR 0 w h0
  have hcell0 := hcell
  clear hcell
  go_enter Try.func68, Try.ntmps68
  go_wp2
  go_loopg [5, 8] xs.length (fun gg _ s8 wr => ∃ kk : Nat, kk ≤ xs.length ∧ xs.length - kk ≤ gg ∧ s8 = .int .i64 kk ∧ Fact (I kk wr) ∧ Fact (idxFrom p (xs.length - kk) kk = idxFrom p xs.length 0))
  case atStart => exact ⟨0, Nat.zero_le _, by omega, rfl, ⟨h0⟩, ⟨rfl⟩⟩
  case round =>
    obtain ⟨kk, hkk, hg, rfl, HI, HE⟩ := hrel
    by_cases hlt : kk < xs.length
    · have hltz : (kk : Int) < (xs.length : Int) := by omega
      have hstep : idxFrom p (xs.length - kk) kk = if p kk = true then (kk : Int) else idxFrom p (xs.length - (kk + 1)) (kk + 1) := by
        rw [show xs.length - kk = (xs.length - (kk + 1)) + 1 by omega, idxFrom]
      rw [hstep] at HE
      clear hstep
      obtain ⟨_, A', c', hv, _, hcell⟩ := hR kk wr HI.out
      obtain ⟨b, off, rfl, hcl⟩ := hcell.2 (by omega)
      simp only [Value.slice.injEq, true_and] at hv
      obtain ⟨rfl, rfl⟩ := hv
      have hcall := hp kk hlt wr HI.out
      have hcl' := hcl kk hlt
      clear hcl hcell hR hp hcell0
      have c0 : wr.cell? ⟨b, off + kk * 4, none⟩ = some (.string xs[kk].name) := hcl' 0 _ rfl
      have c1 : wr.cell? ⟨b, off + kk * 4 + 1, none⟩ = some (.int .u8 xs[kk].cls) := hcl' 1 _ rfl
      have c2 : wr.cell? ⟨b, off + kk * 4 + 2, none⟩ = some (.int .u8 xs[kk].ty) := hcl' 2 _ rfl
      have c3 : wr.cell? ⟨b, off + kk * 4 + 3, none⟩ = some (.int .i64 xs[kk].first) := hcl' 3 _ rfl
      clear hcl'
      rw [show (encVar xs[kk]).toArray = #[.string xs[kk].name, .int .u8 xs[kk].cls, .int .u8 xs[kk].ty, .int .i64 xs[kk].first] from rfl] at hcall
      generalize hy : xs[kk] = y at c0 c1 c2 c3 hcall
      clear hy
      cases hq : p kk with
      | true =>
        rw [hq] at hcall
        rw [hq, if_pos rfl] at HE
        clear hq
        go_wp2_with (go_at_fn g; refine hcall.mono ?_; rintro e w' ⟨rfl, hb'⟩)
        go_ret
        exact ⟨congrArg (fun z => Ending.returned (Value.int .i64 z)) HE.out, _, hb'⟩
      | false =>
        rw [hq] at hcall
        rw [hq, if_neg (by decide)] at HE
        clear hq
        go_wp2_with (go_at_fn g; refine hcall.mono ?_; rintro e w' ⟨rfl, hb'⟩)
        go_roundg (xs.length - (kk + 1))
        case measure => omega
        case rel => exact ⟨kk + 1, by omega, by omega, by go_num, ⟨hb'⟩, HE⟩
    · have hltz : ¬ (kk : Int) < (xs.length : Int) := by omega
      have : kk = xs.length := by omega
      subst this
      rw [Nat.sub_self] at HE
      clear hp hR
      go_wp2
      go_ret
      exact ⟨congrArg (fun z => Ending.returned (Value.int .i64 z)) HE.out, _, HI.out⟩
theorem conVar_any (I : Nat → World → Prop) (p : Nat → Bool) (g : Nat) (lb : Array Value) (eg : ∀ args w, (callFunc g args).run Try.prog w = .ok (.enter g args) w) (v : Value) (xs : List GVar) (w : World)
    (h0 : I 0 w) (hR : ∀ j W, I j W → Rd encVar 4 W v xs) (hp : ∀ j (h : j < xs.length) W, I j W → Calls Try.prog g (#[(.agg (encVar xs[j]).toArray)] ++ lb) W fun e w' => e = .returned (.bool (p j)) ∧ I (j + 1) w') :
    Calls Try.prog 43 #[v, .func (.func g) #[] lb] w fun e w' => e = .returned (.bool (decide (0 ≤ idxFrom p xs.length 0))) ∧ ∃ j, I j w' := by
  have hcall := idxVar_any I p g lb eg v xs w h0 hR hp
  clear h0 hR hp
  go_enter Try.func43, Try.ntmps43
  go_wp2_with (go_at_call 68; refine hcall.mono ?_; rintro e w' ⟨rfl, hb'⟩)
  go_ret
  exact ⟨rfl, hb'⟩
set_option maxHeartbeats 2000000 in
theorem idxIns_any (I : Nat → World → Prop) (p : Nat → Bool) (g : Nat) (lb : Array Value) (eg : ∀ args w, (callFunc g args).run Try.prog w = .ok (.enter g args) w) (v : Value) (xs : List GIns) (w : World)
    (h0 : I 0 w) (hR : ∀ j W, I j W → Rd encIns 4 W v xs) (hp : ∀ j (h : j < xs.length) W, I j W → Calls Try.prog g (#[(.agg (encIns xs[j]).toArray)] ++ lb) W fun e w' => e = .returned (.bool (p j)) ∧ I (j + 1) w') :
    Calls Try.prog 70 #[v, .func (.func g) #[] lb] w fun e w' => e = .returned (.int .i64 (idxFrom p xs.length 0)) ∧ ∃ j, I j w' := by
  obtain ⟨hmax, A, c, rfl, hc, hcell⟩ := hR 0 w h0
  have hcell0 := hcell
  clear hcell
  go_enter Try.func70, Try.ntmps70
  go_wp2
  go_loopg [5, 8] xs.length (fun gg _ s8 wr => ∃ kk : Nat, kk ≤ xs.length ∧ xs.length - kk ≤ gg ∧ s8 = .int .i64 kk ∧ Fact (I kk wr) ∧ Fact (idxFrom p (xs.length - kk) kk = idxFrom p xs.length 0))
  case atStart => exact ⟨0, Nat.zero_le _, by omega, rfl, ⟨h0⟩, ⟨rfl⟩⟩
  case round =>
    obtain ⟨kk, hkk, hg, rfl, HI, HE⟩ := hrel
    by_cases hlt : kk < xs.length
    · have hltz : (kk : Int) < (xs.length : Int) := by omega
      have hstep : idxFrom p (xs.length - kk) kk = if p kk = true then (kk : Int) else idxFrom p (xs.length - (kk + 1)) (kk + 1) := by
        rw [show xs.length - kk = (xs.length - (kk + 1)) + 1 by omega, idxFrom]
      rw [hstep] at HE
      clear hstep
      obtain ⟨_, A', c', hv, _, hcell⟩ := hR kk wr HI.out
      obtain ⟨b, off, rfl, hcl⟩ := hcell.2 (by omega)
      simp only [Value.slice.injEq, true_and] at hv
      obtain ⟨rfl, rfl⟩ := hv
      have hcall := hp kk hlt wr HI.out
      have hcl' := hcl kk hlt
      clear hcl hcell hR hp hcell0
      have c0 : wr.cell? ⟨b, off + kk * 4, none⟩ = some (.int .u8 xs[kk].op) := hcl' 0 _ rfl
      have c1 : wr.cell? ⟨b, off + kk * 4 + 1, none⟩ = some (.int .u8 xs[kk].t) := hcl' 1 _ rfl
      have c2 : wr.cell? ⟨b, off + kk * 4 + 2, none⟩ = some (.int .i64 xs[kk].a) := hcl' 2 _ rfl
      have c3 : wr.cell? ⟨b, off + kk * 4 + 3, none⟩ = some (.int .i64 xs[kk].n) := hcl' 3 _ rfl
      clear hcl'
      rw [show (encIns xs[kk]).toArray = #[.int .u8 xs[kk].op, .int .u8 xs[kk].t, .int .i64 xs[kk].a, .int .i64 xs[kk].n] from rfl] at hcall
      generalize hy : xs[kk] = y at c0 c1 c2 c3 hcall
      clear hy
      cases hq : p kk with
      | true =>
        rw [hq] at hcall
        rw [hq, if_pos rfl] at HE
        clear hq
        go_wp2_with (go_at_fn g; refine hcall.mono ?_; rintro e w' ⟨rfl, hb'⟩)
        go_ret
        exact ⟨congrArg (fun z => Ending.returned (Value.int .i64 z)) HE.out, _, hb'⟩
      | false =>
        rw [hq] at hcall
        rw [hq, if_neg (by decide)] at HE
        clear hq
        go_wp2_with (go_at_fn g; refine hcall.mono ?_; rintro e w' ⟨rfl, hb'⟩)
        go_roundg (xs.length - (kk + 1))
        case measure => omega
        case rel => exact ⟨kk + 1, by omega, by omega, by go_num, ⟨hb'⟩, HE⟩
    · have hltz : ¬ (kk : Int) < (xs.length : Int) := by omega
      have : kk = xs.length := by omega
      subst this
      rw [Nat.sub_self] at HE
      clear hp hR
      go_wp2
      go_ret
      exact ⟨congrArg (fun z => Ending.returned (Value.int .i64 z)) HE.out, _, HI.out⟩
theorem conIns_any (I : Nat → World → Prop) (p : Nat → Bool) (g : Nat) (lb : Array Value) (eg : ∀ args w, (callFunc g args).run Try.prog w = .ok (.enter g args) w) (v : Value) (xs : List GIns) (w : World)
    (h0 : I 0 w) (hR : ∀ j W, I j W → Rd encIns 4 W v xs) (hp : ∀ j (h : j < xs.length) W, I j W → Calls Try.prog g (#[(.agg (encIns xs[j]).toArray)] ++ lb) W fun e w' => e = .returned (.bool (p j)) ∧ I (j + 1) w') :
    Calls Try.prog 46 #[v, .func (.func g) #[] lb] w fun e w' => e = .returned (.bool (decide (0 ≤ idxFrom p xs.length 0))) ∧ ∃ j, I j w' := by
  have hcall := idxIns_any I p g lb eg v xs w h0 hR hp
  clear h0 hR hp
  go_enter Try.func46, Try.ntmps46
  go_wp2_with (go_at_call 70; refine hcall.mono ?_; rintro e w' ⟨rfl, hb'⟩)
  go_ret
  exact ⟨rfl, hb'⟩
set_option maxHeartbeats 2000000 in
theorem idxBKind_any (I : Nat → World → Prop) (p : Nat → Bool) (g : Nat) (lb : Array Value) (eg : ∀ args w, (callFunc g args).run Try.prog w = .ok (.enter g args) w) (v : Value) (xs : List Int) (w : World)
    (h0 : I 0 w) (hR : ∀ j W, I j W → Rd oneU8 1 W v xs) (hp : ∀ j (h : j < xs.length) W, I j W → Calls Try.prog g (#[(.int .u8 xs[j])] ++ lb) W fun e w' => e = .returned (.bool (p j)) ∧ I (j + 1) w') :
    Calls Try.prog 69 #[v, .func (.func g) #[] lb] w fun e w' => e = .returned (.int .i64 (idxFrom p xs.length 0)) ∧ ∃ j, I j w' := by
  obtain ⟨hmax, A, c, rfl, hc, hcell⟩ := hR 0 w h0
  have hcell0 := hcell
  clear hcell
  go_enter Try.func69, Try.ntmps69
  go_wp2
  go_loopg [5, 8] xs.length (fun gg _ s8 wr => ∃ kk : Nat, kk ≤ xs.length ∧ xs.length - kk ≤ gg ∧ s8 = .int .i64 kk ∧ Fact (I kk wr) ∧ Fact (idxFrom p (xs.length - kk) kk = idxFrom p xs.length 0))
  case atStart => exact ⟨0, Nat.zero_le _, by omega, rfl, ⟨h0⟩, ⟨rfl⟩⟩
  case round =>
    obtain ⟨kk, hkk, hg, rfl, HI, HE⟩ := hrel
    by_cases hlt : kk < xs.length
    · have hltz : (kk : Int) < (xs.length : Int) := by omega
      have hstep : idxFrom p (xs.length - kk) kk = if p kk = true then (kk : Int) else idxFrom p (xs.length - (kk + 1)) (kk + 1) := by
        rw [show xs.length - kk = (xs.length - (kk + 1)) + 1 by omega, idxFrom]
      rw [hstep] at HE
      clear hstep
      obtain ⟨_, A', c', hv, _, hcell⟩ := hR kk wr HI.out
      obtain ⟨b, off, rfl, hcl⟩ := hcell.2 (by omega)
      simp only [Value.slice.injEq, true_and] at hv
      obtain ⟨rfl, rfl⟩ := hv
      have hcall := hp kk hlt wr HI.out
      have hcl' := hcl kk hlt
      clear hcl hcell hR hp hcell0
      have l2 : wr.cell? ⟨b, off + kk, none⟩ = some (.int .u8 xs[kk]) := by simpa using hcl' 0 _ rfl
      clear hcl'
      generalize hy : xs[kk] = y at l2 hcall
      clear hy
      cases hq : p kk with
      | true =>
        rw [hq] at hcall
        rw [hq, if_pos rfl] at HE
        clear hq
        go_wp2_with (go_at_fn g; refine hcall.mono ?_; rintro e w' ⟨rfl, hb'⟩)
        go_ret
        exact ⟨congrArg (fun z => Ending.returned (Value.int .i64 z)) HE.out, _, hb'⟩
      | false =>
        rw [hq] at hcall
        rw [hq, if_neg (by decide)] at HE
        clear hq
        go_wp2_with (go_at_fn g; refine hcall.mono ?_; rintro e w' ⟨rfl, hb'⟩)
        go_roundg (xs.length - (kk + 1))
        case measure => omega
        case rel => exact ⟨kk + 1, by omega, by omega, by go_num, ⟨hb'⟩, HE⟩
    · have hltz : ¬ (kk : Int) < (xs.length : Int) := by omega
      have : kk = xs.length := by omega
      subst this
      rw [Nat.sub_self] at HE
      clear hp hR
      go_wp2
      go_ret
      exact ⟨congrArg (fun z => Ending.returned (Value.int .i64 z)) HE.out, _, HI.out⟩
theorem conBKind_any (I : Nat → World → Prop) (p : Nat → Bool) (g : Nat) (lb : Array Value) (eg : ∀ args w, (callFunc g args).run Try.prog w = .ok (.enter g args) w) (v : Value) (xs : List Int) (w : World)
    (h0 : I 0 w) (hR : ∀ j W, I j W → Rd oneU8 1 W v xs) (hp : ∀ j (h : j < xs.length) W, I j W → Calls Try.prog g (#[(.int .u8 xs[j])] ++ lb) W fun e w' => e = .returned (.bool (p j)) ∧ I (j + 1) w') :
    Calls Try.prog 45 #[v, .func (.func g) #[] lb] w fun e w' => e = .returned (.bool (decide (0 ≤ idxFrom p xs.length 0))) ∧ ∃ j, I j w' := by
  have hcall := idxBKind_any I p g lb eg v xs w h0 hR hp
  clear h0 hR hp
  go_enter Try.func45, Try.ntmps45
  go_wp2_with (go_at_call 69; refine hcall.mono ?_; rintro e w' ⟨rfl, hb'⟩)
  go_ret
  exact ⟨rfl, hb'⟩
set_option maxHeartbeats 2000000 in
theorem idxByte_any (I : Nat → World → Prop) (p : Nat → Bool) (g : Nat) (lb : Array Value) (eg : ∀ args w, (callFunc g args).run Try.prog w = .ok (.enter g args) w) (v : Value) (xs : List Int) (w : World)
    (h0 : I 0 w) (hR : ∀ j W, I j W → Rd oneU8 1 W v xs) (hp : ∀ j (h : j < xs.length) W, I j W → Calls Try.prog g (#[(.int .u8 xs[j])] ++ lb) W fun e w' => e = .returned (.bool (p j)) ∧ I (j + 1) w') :
    Calls Try.prog 94 #[v, .func (.func g) #[] lb] w fun e w' => e = .returned (.int .i64 (idxFrom p xs.length 0)) ∧ ∃ j, I j w' := by
  obtain ⟨hmax, A, c, rfl, hc, hcell⟩ := hR 0 w h0
  have hcell0 := hcell
  clear hcell
  go_enter Try.func94, Try.ntmps94
  go_wp2
  go_loopg [5, 8] xs.length (fun gg _ s8 wr => ∃ kk : Nat, kk ≤ xs.length ∧ xs.length - kk ≤ gg ∧ s8 = .int .i64 kk ∧ Fact (I kk wr) ∧ Fact (idxFrom p (xs.length - kk) kk = idxFrom p xs.length 0))
  case atStart => exact ⟨0, Nat.zero_le _, by omega, rfl, ⟨h0⟩, ⟨rfl⟩⟩
  case round =>
    obtain ⟨kk, hkk, hg, rfl, HI, HE⟩ := hrel
    by_cases hlt : kk < xs.length
    · have hltz : (kk : Int) < (xs.length : Int) := by omega
      have hstep : idxFrom p (xs.length - kk) kk = if p kk = true then (kk : Int) else idxFrom p (xs.length - (kk + 1)) (kk + 1) := by
        rw [show xs.length - kk = (xs.length - (kk + 1)) + 1 by omega, idxFrom]
      rw [hstep] at HE
      clear hstep
      obtain ⟨_, A', c', hv, _, hcell⟩ := hR kk wr HI.out
      obtain ⟨b, off, rfl, hcl⟩ := hcell.2 (by omega)
      simp only [Value.slice.injEq, true_and] at hv
      obtain ⟨rfl, rfl⟩ := hv
      have hcall := hp kk hlt wr HI.out
      have hcl' := hcl kk hlt
      clear hcl hcell hR hp hcell0
      have l2 : wr.cell? ⟨b, off + kk, none⟩ = some (.int .u8 xs[kk]) := by simpa using hcl' 0 _ rfl
      clear hcl'
      generalize hy : xs[kk] = y at l2 hcall
      clear hy
      cases hq : p kk with
      | true =>
        rw [hq] at hcall
        rw [hq, if_pos rfl] at HE
        clear hq
        go_wp2_with (go_at_fn g; refine hcall.mono ?_; rintro e w' ⟨rfl, hb'⟩)
        go_ret
        exact ⟨congrArg (fun z => Ending.returned (Value.int .i64 z)) HE.out, _, hb'⟩
      | false =>
        rw [hq] at hcall
        rw [hq, if_neg (by decide)] at HE
        clear hq
        go_wp2_with (go_at_fn g; refine hcall.mono ?_; rintro e w' ⟨rfl, hb'⟩)
        go_roundg (xs.length - (kk + 1))
        case measure => omega
        case rel => exact ⟨kk + 1, by omega, by omega, by go_num, ⟨hb'⟩, HE⟩
    · have hltz : ¬ (kk : Int) < (xs.length : Int) := by omega
      have : kk = xs.length := by omega
      subst this
      rw [Nat.sub_self] at HE
      clear hp hR
      go_wp2
      go_ret
      exact ⟨congrArg (fun z => Ending.returned (Value.int .i64 z)) HE.out, _, HI.out⟩
end Go.Proofs.Ythiapebodpkamaa

