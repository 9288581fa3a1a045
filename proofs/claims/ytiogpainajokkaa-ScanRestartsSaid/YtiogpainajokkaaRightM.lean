/- Contracts of slices.IndexFunc and slices.ContainsFunc, for any function value that keeps an invariant. Printed by gen_idx.py. -/
import Derived.Test.YtiogpainajokkaaBaseM
import Derived.Test.YtiogpainajokkaaProg
import Derived.Deep.LoopGhost
import Derived.Shelf.Abstract
import Derived.Test.YtiogpainajokkaaFitsC
import Derived.Outline
namespace Go.Proofs.Ytiogpainajokkaa
open Go.RowKit
set_option maxHeartbeats 2000000 in
theorem idxVar_any (I : Nat → World → Prop) (p : Nat → Bool) (g : Nat) (lb : Array Value) (eg : ∀ args w, (callFunc g args).run Try.prog w = .ok (.enter g args) w) (v : Value) (xs : List GVar) (w : World)
    (h0 : I 0 w) (hR : ∀ j W, I j W → Rd encVar 4 W v xs) (hp : ∀ j (h : j < xs.length) W, I j W → Calls Try.prog g (#[(.agg (encVar xs[j]).toArray)] ++ lb) W fun e w' => e = .returned (.bool (p j)) ∧ I (j + 1) w') :
    Calls Try.prog 139 #[v, .func (.func g) #[] lb] w fun e w' => e = .returned (.int .i64 (idxFrom p xs.length 0)) ∧ ∃ j, I j w' := by
  obtain ⟨hmax, A, c, rfl, hc, hcell⟩ := hR 0 w h0
  have hcell0 := hcell
  clear hcell
  go_enter Try.func139, Try.ntmps139
  go_wp2
  go_loopg [5, 8] xs.length (fun gg _ s8 wr => ∃ kk : Nat, kk ≤ xs.length ∧ xs.length - kk ≤ gg ∧ s8 = .int .i64 kk ∧ Fact (I kk wr) ∧ Fact (idxFrom p (xs.length - kk) kk = idxFrom p xs.length 0))
  case atStart => exact ⟨0, Nat.zero_le _, by omega, rfl, ⟨h0⟩, ⟨rfl⟩⟩
  case round =>
    obtain ⟨kk, hkk, hg, rfl, HI, HE⟩ := hrel
    by_cases hlt : kk < xs.length
    · have hltz : (kk : Int) < (xs.length : Int) := by omega
      have hstep : idxFrom p (xs.length - kk) kk = if p kk = true then (kk : Int) else idxFrom p (xs.length - (kk + 1)) (kk + 1) := by
        rw [show xs.length - kk = (xs.length - (kk + 1)) + 1 by omega, idxFrom]
      rw [hstep] at HE
      clear hstep
      obtain ⟨_, A', c', hv, _, hcell⟩ := hR kk wr HI.out
      obtain ⟨b, off, rfl, hcl⟩ := hcell.2 (by omega)
      simp only [Value.slice.injEq, true_and] at hv
      obtain ⟨rfl, rfl⟩ := hv
      have hcall := hp kk hlt wr HI.out
      have hcl' := hcl kk hlt
      clear hcl hcell hR hp hcell0
      have c0 : wr.cell? ⟨b, off + kk * 4, none⟩ = some (.string xs[kk].name) := hcl' 0 _ rfl
      have c1 : wr.cell? ⟨b, off + kk * 4 + 1, none⟩ = some (.int .u8 xs[kk].cls) := hcl' 1 _ rfl
      have c2 : wr.cell? ⟨b, off + kk * 4 + 2, none⟩ = some (.int .u8 xs[kk].ty) := hcl' 2 _ rfl
      have c3 : wr.cell? ⟨b, off + kk * 4 + 3, none⟩ = some (.int .i64 xs[kk].first) := hcl' 3 _ rfl
      clear hcl'
      rw [show (encVar xs[kk]).toArray = #[.string xs[kk].name, .int .u8 xs[kk].cls, .int .u8 xs[kk].ty, .int .i64 xs[kk].first] from rfl] at hcall
      generalize hy : xs[kk] = y at c0 c1 c2 c3 hcall
      clear hy
      cases hq : p kk with
      | true =>
        rw [hq] at hcall
        rw [hq, if_pos rfl] at HE
        clear hq
        go_wp2_with (go_at_fn g; refine hcall.mono ?_; rintro e w' ⟨rfl, hb'⟩)
        go_ret
        exact ⟨congrArg (fun z => Ending.returned (Value.int .i64 z)) HE.out, _, hb'⟩
      | false =>
        rw [hq] at hcall
        rw [hq, if_neg (by decide)] at HE
        clear hq
        go_wp2_with (go_at_fn g; refine hcall.mono ?_; rintro e w' ⟨rfl, hb'⟩)
        go_roundg (xs.length - (kk + 1))
        case measure => omega
        case rel => exact ⟨kk + 1, by omega, by omega, by go_num, ⟨hb'⟩, HE⟩
    · have hltz : ¬ (kk : Int) < (xs.length : Int) := by omega
      have : kk = xs.length := by omega
      subst this
      rw [Nat.sub_self] at HE
      clear hp hR
      go_wp2
      go_ret
      exact ⟨congrArg (fun z => Ending.returned (Value.int .i64 z)) HE.out, _, HI.out⟩
theorem conVar_any (I : Nat → World → Prop) (p : Nat → Bool) (g : Nat) (lb : Array Value) (eg : ∀ args w, (callFunc g args).run Try.prog w = .ok (.enter g args) w) (v : Value) (xs : List GVar) (w : World)
    (h0 : I 0 w) (hR : ∀ j W, I j W → Rd encVar 4 W v xs) (hp : ∀ j (h : j < xs.length) W, I j W → Calls Try.prog g (#[(.agg (encVar xs[j]).toArray)] ++ lb) W fun e w' => e = .returned (.bool (p j)) ∧ I (j + 1) w') :
    Calls Try.prog 114 #[v, .func (.func g) #[] lb] w fun e w' => e = .returned (.bool (decide (0 ≤ idxFrom p xs.length 0))) ∧ ∃ j, I j w' := by
  have hcall := idxVar_any I p g lb eg v xs w h0 hR hp
  clear h0 hR hp
  go_enter Try.func114, Try.ntmps114
  go_wp2_with (go_at_call 139; refine hcall.mono ?_; rintro e w' ⟨rfl, hb'⟩)
  go_ret
  exact ⟨rfl, hb'⟩
set_option maxHeartbeats 2000000 in
theorem idxIns_any (I : Nat → World → Prop) (p : Nat → Bool) (g : Nat) (lb : Array Value) (eg : ∀ args w, (callFunc g args).run Try.prog w = .ok (.enter g args) w) (v : Value) (xs : List GIns) (w : World)
    (h0 : I 0 w) (hR : ∀ j W, I j W → Rd encIns 4 W v xs) (hp : ∀ j (h : j < xs.length) W, I j W → Calls Try.prog g (#[(.agg (encIns xs[j]).toArray)] ++ lb) W fun e w' => e = .returned (.bool (p j)) ∧ I (j + 1) w') :
    Calls Try.prog 144 #[v, .func (.func g) #[] lb] w fun e w' => e = .returned (.int .i64 (idxFrom p xs.length 0)) ∧ ∃ j, I j w' := by
  obtain ⟨hmax, A, c, rfl, hc, hcell⟩ := hR 0 w h0
  have hcell0 := hcell
  clear hcell
  go_enter Try.func144, Try.ntmps144
  go_wp2
  go_loopg [5, 8] xs.length (fun gg _ s8 wr => ∃ kk : Nat, kk ≤ xs.length ∧ xs.length - kk ≤ gg ∧ s8 = .int .i64 kk ∧ Fact (I kk wr) ∧ Fact (idxFrom p (xs.length - kk) kk = idxFrom p xs.length 0))
  case atStart => exact ⟨0, Nat.zero_le _, by omega, rfl, ⟨h0⟩, ⟨rfl⟩⟩
  case round =>
    obtain ⟨kk, hkk, hg, rfl, HI, HE⟩ := hrel
    by_cases hlt : kk < xs.length
    · have hltz : (kk : Int) < (xs.length : Int) := by omega
      have hstep : idxFrom p (xs.length - kk) kk = if p kk = true then (kk : Int) else idxFrom p (xs.length - (kk + 1)) (kk + 1) := by
        rw [show xs.length - kk = (xs.length - (kk + 1)) + 1 by omega, idxFrom]
      rw [hstep] at HE
      clear hstep
      obtain ⟨_, A', c', hv, _, hcell⟩ := hR kk wr HI.out
      obtain ⟨b, off, rfl, hcl⟩ := hcell.2 (by omega)
      simp only [Value.slice.injEq, true_and] at hv
      obtain ⟨rfl, rfl⟩ := hv
      have hcall := hp kk hlt wr HI.out
      have hcl' := hcl kk hlt
      clear hcl hcell hR hp hcell0
      have c0 : wr.cell? ⟨b, off + kk * 4, none⟩ = some (.int .u8 xs[kk].op) := hcl' 0 _ rfl
      have c1 : wr.cell? ⟨b, off + kk * 4 + 1, none⟩ = some (.int .u8 xs[kk].t) := hcl' 1 _ rfl
      have c2 : wr.cell? ⟨b, off + kk * 4 + 2, none⟩ = some (.int .i64 xs[kk].a) := hcl' 2 _ rfl
      have c3 : wr.cell? ⟨b, off + kk * 4 + 3, none⟩ = some (.int .i64 xs[kk].n) := hcl' 3 _ rfl
      clear hcl'
      rw [show (encIns xs[kk]).toArray = #[.int .u8 xs[kk].op, .int .u8 xs[kk].t, .int .i64 xs[kk].a, .int .i64 xs[kk].n] from rfl] at hcall
      generalize hy : xs[kk] = y at c0 c1 c2 c3 hcall
      clear hy
      cases hq : p kk with
      | true =>
        rw [hq] at hcall
        rw [hq, if_pos rfl] at HE
        clear hq
        go_wp2_with (go_at_fn g; refine hcall.mono ?_; rintro e w' ⟨rfl, hb'⟩)
        go_ret
        exact ⟨congrArg (fun z => Ending.returned (Value.int .i64 z)) HE.out, _, hb'⟩
      | false =>
        rw [hq] at hcall
        rw [hq, if_neg (by decide)] at HE
        clear hq
        go_wp2_with (go_at_fn g; refine hcall.mono ?_; rintro e w' ⟨rfl, hb'⟩)
        go_roundg (xs.length - (kk + 1))
        case measure => omega
        case rel => exact ⟨kk + 1, by omega, by omega, by go_num, ⟨hb'⟩, HE⟩
    · have hltz : ¬ (kk : Int) < (xs.length : Int) := by omega
      have : kk = xs.length := by omega
      subst this
      rw [Nat.sub_self] at HE
      clear hp hR
      go_wp2
      go_ret
      exact ⟨congrArg (fun z => Ending.returned (Value.int .i64 z)) HE.out, _, HI.out⟩
theorem conIns_any (I : Nat → World → Prop) (p : Nat → Bool) (g : Nat) (lb : Array Value) (eg : ∀ args w, (callFunc g args).run Try.prog w = .ok (.enter g args) w) (v : Value) (xs : List GIns) (w : World)
    (h0 : I 0 w) (hR : ∀ j W, I j W → Rd encIns 4 W v xs) (hp : ∀ j (h : j < xs.length) W, I j W → Calls Try.prog g (#[(.agg (encIns xs[j]).toArray)] ++ lb) W fun e w' => e = .returned (.bool (p j)) ∧ I (j + 1) w') :
    Calls Try.prog 117 #[v, .func (.func g) #[] lb] w fun e w' => e = .returned (.bool (decide (0 ≤ idxFrom p xs.length 0))) ∧ ∃ j, I j w' := by
  have hcall := idxIns_any I p g lb eg v xs w h0 hR hp
  clear h0 hR hp
  go_enter Try.func117, Try.ntmps117
  go_wp2_with (go_at_call 144; refine hcall.mono ?_; rintro e w' ⟨rfl, hb'⟩)
  go_ret
  exact ⟨rfl, hb'⟩
set_option maxHeartbeats 2000000 in
theorem idxBKind_any (I : Nat → World → Prop) (p : Nat → Bool) (g : Nat) (lb : Array Value) (eg : ∀ args w, (callFunc g args).run Try.prog w = .ok (.enter g args) w) (v : Value) (xs : List Int) (w : World)
    (h0 : I 0 w) (hR : ∀ j W, I j W → Rd oneU8 1 W v xs) (hp : ∀ j (h : j < xs.length) W, I j W → Calls Try.prog g (#[(.int .u8 xs[j])] ++ lb) W fun e w' => e = .returned (.bool (p j)) ∧ I (j + 1) w') :
    Calls Try.prog 143 #[v, .func (.func g) #[] lb] w fun e w' => e = .returned (.int .i64 (idxFrom p xs.length 0)) ∧ ∃ j, I j w' := by
  obtain ⟨hmax, A, c, rfl, hc, hcell⟩ := hR 0 w h0
  have hcell0 := hcell
  clear hcell
  go_enter Try.func143, Try.ntmps143
  go_wp2
  go_loopg [5, 8] xs.length (fun gg _ s8 wr => ∃ kk : Nat, kk ≤ xs.length ∧ xs.length - kk ≤ gg ∧ s8 = .int .i64 kk ∧ Fact (I kk wr) ∧ Fact (idxFrom p (xs.length - kk) kk = idxFrom p xs.length 0))
  case atStart => exact ⟨0, Nat.zero_le _, by omega, rfl, ⟨h0⟩, ⟨rfl⟩⟩
  case round =>
    obtain ⟨kk, hkk, hg, rfl, HI, HE⟩ := hrel
    by_cases hlt : kk < xs.length
    · have hltz : (kk : Int) < (xs.length : Int) := by omega
      have hstep : idxFrom p (xs.length - kk) kk = if p kk = true then (kk : Int) else idxFrom p (xs.length - (kk + 1)) (kk + 1) := by
        rw [show xs.length - kk = (xs.length - (kk + 1)) + 1 by omega, idxFrom]
      rw [hstep] at HE
      clear hstep
      obtain ⟨_, A', c', hv, _, hcell⟩ := hR kk wr HI.out
      obtain ⟨b, off, rfl, hcl⟩ := hcell.2 (by omega)
      simp only [Value.slice.injEq, true_and] at hv
      obtain ⟨rfl, rfl⟩ := hv
      have hcall := hp kk hlt wr HI.out
      have hcl' := hcl kk hlt
      clear hcl hcell hR hp hcell0
      have l2 : wr.cell? ⟨b, off + kk, none⟩ = some (.int .u8 xs[kk]) := by simpa using hcl' 0 _ rfl
      clear hcl'
      generalize hy : xs[kk] = y at l2 hcall
      clear hy
      cases hq : p kk with
      | true =>
        rw [hq] at hcall
        rw [hq, if_pos rfl] at HE
        clear hq
        go_wp2_with (go_at_fn g; refine hcall.mono ?_; rintro e w' ⟨rfl, hb'⟩)
        go_ret
        exact ⟨congrArg (fun z => Ending.returned (Value.int .i64 z)) HE.out, _, hb'⟩
      | false =>
        rw [hq] at hcall
        rw [hq, if_neg (by decide)] at HE
        clear hq
        go_wp2_with (go_at_fn g; refine hcall.mono ?_; rintro e w' ⟨rfl, hb'⟩)
        go_roundg (xs.length - (kk + 1))
        case measure => omega
        case rel => exact ⟨kk + 1, by omega, by omega, by go_num, ⟨hb'⟩, HE⟩
    · have hltz : ¬ (kk : Int) < (xs.length : Int) := by omega
      have : kk = xs.length := by omega
      subst this
      rw [Nat.sub_self] at HE
      clear hp hR
      go_wp2
      go_ret
      exact ⟨congrArg (fun z => Ending.returned (Value.int .i64 z)) HE.out, _, HI.out⟩
theorem conBKind_any (I : Nat → World → Prop) (p : Nat → Bool) (g : Nat) (lb : Array Value) (eg : ∀ args w, (callFunc g args).run Try.prog w = .ok (.enter g args) w) (v : Value) (xs : List Int) (w : World)
    (h0 : I 0 w) (hR : ∀ j W, I j W → Rd oneU8 1 W v xs) (hp : ∀ j (h : j < xs.length) W, I j W → Calls Try.prog g (#[(.int .u8 xs[j])] ++ lb) W fun e w' => e = .returned (.bool (p j)) ∧ I (j + 1) w') :
    Calls Try.prog 116 #[v, .func (.func g) #[] lb] w fun e w' => e = .returned (.bool (decide (0 ≤ idxFrom p xs.length 0))) ∧ ∃ j, I j w' := by
  have hcall := idxBKind_any I p g lb eg v xs w h0 hR hp
  clear h0 hR hp
  go_enter Try.func116, Try.ntmps116
  go_wp2_with (go_at_call 143; refine hcall.mono ?_; rintro e w' ⟨rfl, hb'⟩)
  go_ret
  exact ⟨rfl, hb'⟩
set_option maxHeartbeats 2000000 in
theorem idxByte_any (I : Nat → World → Prop) (p : Nat → Bool) (g : Nat) (lb : Array Value) (eg : ∀ args w, (callFunc g args).run Try.prog w = .ok (.enter g args) w) (v : Value) (xs : List Int) (w : World)
    (h0 : I 0 w) (hR : ∀ j W, I j W → Rd oneU8 1 W v xs) (hp : ∀ j (h : j < xs.length) W, I j W → Calls Try.prog g (#[(.int .u8 xs[j])] ++ lb) W fun e w' => e = .returned (.bool (p j)) ∧ I (j + 1) w') :
    Calls Try.prog 108 #[v, .func (.func g) #[] lb] w fun e w' => e = .returned (.int .i64 (idxFrom p xs.length 0)) ∧ ∃ j, I j w' := by
  obtain ⟨hmax, A, c, rfl, hc, hcell⟩ := hR 0 w h0
  have hcell0 := hcell
  clear hcell
  go_enter Try.func108, Try.ntmps108
  go_wp2
  go_loopg [5, 8] xs.length (fun gg _ s8 wr => ∃ kk : Nat, kk ≤ xs.length ∧ xs.length - kk ≤ gg ∧ s8 = .int .i64 kk ∧ Fact (I kk wr) ∧ Fact (idxFrom p (xs.length - kk) kk = idxFrom p xs.length 0))
  case atStart => exact ⟨0, Nat.zero_le _, by omega, rfl, ⟨h0⟩, ⟨rfl⟩⟩
  case round =>
    obtain ⟨kk, hkk, hg, rfl, HI, HE⟩ := hrel
    by_cases hlt : kk < xs.length
    · have hltz : (kk : Int) < (xs.length : Int) := by omega
      have hstep : idxFrom p (xs.length - kk) kk = if p kk = true then (kk : Int) else idxFrom p (xs.length - (kk + 1)) (kk + 1) := by
        rw [show xs.length - kk = (xs.length - (kk + 1)) + 1 by omega, idxFrom]
      rw [hstep] at HE
      clear hstep
      obtain ⟨_, A', c', hv, _, hcell⟩ := hR kk wr HI.out
      obtain ⟨b, off, rfl, hcl⟩ := hcell.2 (by omega)
      simp only [Value.slice.injEq, true_and] at hv
      obtain ⟨rfl, rfl⟩ := hv
      have hcall := hp kk hlt wr HI.out
      have hcl' := hcl kk hlt
      clear hcl hcell hR hp hcell0
      have l2 : wr.cell? ⟨b, off + kk, none⟩ = some (.int .u8 xs[kk]) := by simpa using hcl' 0 _ rfl
      clear hcl'
      generalize hy : xs[kk] = y at l2 hcall
      clear hy
      cases hq : p kk with
      | true =>
        rw [hq] at hcall
        rw [hq, if_pos rfl] at HE
        clear hq
        go_wp2_with (go_at_fn g; refine hcall.mono ?_; rintro e w' ⟨rfl, hb'⟩)
        go_ret
        exact ⟨congrArg (fun z => Ending.returned (Value.int .i64 z)) HE.out, _, hb'⟩
      | false =>
        rw [hq] at hcall
        rw [hq, if_neg (by decide)] at HE
        clear hq
        go_wp2_with (go_at_fn g; refine hcall.mono ?_; rintro e w' ⟨rfl, hb'⟩)
        go_roundg (xs.length - (kk + 1))
        case measure => omega
        case rel => exact ⟨kk + 1, by omega, by omega, by go_num, ⟨hb'⟩, HE⟩
    · have hltz : ¬ (kk : Int) < (xs.length : Int) := by omega
      have : kk = xs.length := by omega
      subst this
      rw [Nat.sub_self] at HE
      clear hp hR
      go_wp2
      go_ret
      exact ⟨congrArg (fun z => Ending.returned (Value.int .i64 z)) HE.out, _, HI.out⟩
end Go.Proofs.Ytiogpainajokkaa

namespace Go.Proofs.Ytiogpainajokkaa
open Go.RowKit Go.Shelf
abbrev mkStr : ByteArray → Value := fun s => .string s
def memB (s : ByteArray) (l : List ByteArray) : Bool := l.any fun x => decide (s = x)
def setFn (l : List ByteArray) : ByteArray → Option Value := fun s => if memB s l = true then some (.int .i64 1) else none
def wrongB (l : List ByteArray) (v : GVar) : Bool := memB v.name l || !(namedB v.name) || decide (v.cls < 1) || decide (4 < v.cls) || !(typedB v.ty) || !(withinB v.ty v.first)
theorem zeroInt (w : World) : (zeroValue 3).run Try.prog w = .ok (.int .i64 0) w := by kernel_rfl
theorem isMap_ne {w : World} {M : Nat} {f : ByteArray → Option Value} (h : MapFn mkStr w M f) {a : Addr} {v : Value} (hc : w.cell? a = some v) : a.block ≠ M := by
  intro e
  obtain ⟨l, ⟨es, c, hh, _⟩, _⟩ := h
  simp [World.cell?, e, hh] at hc
set_option maxHeartbeats 2000000 in
set_option maxRecDepth 100000 in
theorem wrong_any (v : GVar) (hv : v.Wf) (sb M : Nat) (l : List ByteArray) (w : World) (hs : w.cell? ⟨sb, 0, none⟩ = some (.map (some M))) (hm : MapFn mkStr w M (setFn l)) :
    Calls Try.prog 110 #[.agg #[.string v.name, .int .u8 v.cls, .int .u8 v.ty, .int .i64 v.first], .pointer (some ⟨sb, 0, none⟩)] w fun e w' => e = .returned (.bool (wrongB l v)) ∧ MapFn mkStr w' M (setFn (v.name :: l)) ∧ w.grownBy w' (some M) := by
  have hT : Try.prog.underlying 197 = some (.map 9 3) := Try.underlying197
  have L : KeyLaw Try.prog 9 .string mkStr := keyLaw_string Try.underlying9
  obtain ⟨⟨cl0, cl1⟩⟩ := Fact.mk hv.cls
  obtain ⟨⟨ty0, ty1⟩⟩ := Fact.mk hv.ty
  obtain ⟨b1, b2, b3⟩ := one_block w (.cells #[.string v.name, .int .u8 v.cls, .int .u8 v.ty, .int .i64 v.first] 43)
  have hm1 := Fact.mk (hm.keep (b1.block M hm.lt))
  have hs1 := cell_below b1 _ _ hs
  have k0 : (w.alloc (.cells #[.string v.name, .int .u8 v.cls, .int .u8 v.ty, .int .i64 v.first] 43)).cell? ⟨w.heap.size, 0, none⟩ = some (.string v.name) := by rw [cell_of_row _ _ 0 _ _ _ b2]; rfl
  have k1 : (w.alloc (.cells #[.string v.name, .int .u8 v.cls, .int .u8 v.ty, .int .i64 v.first] 43)).cell? ⟨w.heap.size, 1, none⟩ = some (.int .u8 v.cls) := by rw [cell_of_row _ _ 1 _ _ _ b2]; rfl
  have k2 : (w.alloc (.cells #[.string v.name, .int .u8 v.cls, .int .u8 v.ty, .int .i64 v.first] 43)).cell? ⟨w.heap.size, 2, none⟩ = some (.int .u8 v.ty) := by rw [cell_of_row _ _ 2 _ _ _ b2]; rfl
  have k3 : (w.alloc (.cells #[.string v.name, .int .u8 v.cls, .int .u8 v.ty, .int .i64 v.first] 43)).cell? ⟨w.heap.size, 3, none⟩ = some (.int .i64 v.first) := by rw [cell_of_row _ _ 3 _ _ _ b2]; rfl
  have K := Fact.mk (And.intro k0 (And.intro k1 (And.intro k2 (And.intro k3 (And.intro hs1 (grown_below b1 (some M)))))))
  clear k0 k1 k2 k3 hm b1 b2 b3 hv hs
  have hne : M ≠ w.heap.size := fun e => isMap_ne hm1.out K.out.1 e.symm
  obtain ⟨ag, hag⟩ : ∃ ag : Bool, memB v.name l = ag := ⟨_, rfl⟩
  have hval : (setFn l v.name).getD (.int .i64 0) = .int .i64 (if ag = true then 1 else 0) := by
    unfold setFn
    rw [hag]
    cases ag <;> rfl
  unfold wrongB
  rw [hag]
  have HV := Fact.mk hval
  clear hval hag
  have hfin : ∀ W, MapFn mkStr W M (fun b => if b = v.name then some (.int .i64 1) else setFn l b) → MapFn mkStr W M (setFn (v.name :: l)) := fun W h => h.ext (fun a => by
    unfold setFn
    by_cases e : a = v.name
    · subst e; simp [memB]
    · have e' : memB a (v.name :: l) = memB a l := by simp only [memB, List.any_cons, decide_eq_false e, Bool.false_or]
      rw [e', if_neg e])
  have HF := Fact.mk hfin
  clear hfin
  go_enter Try.func110, Try.ntmps110
  go_wp2_with (first | (at_lookup; refine wpList_look L hT zeroInt rfl _ _ rfl M _ v.name rfl rfl hm1.out _ HV.out ?_) | (refine wpList_put L hT rfl _ _ _ (.inr rfl) rfl M _ v.name rfl rfl hm1.out _ rfl ?_; intro w' hm2 hg2 _; have HM2 := Fact.mk (HF.out _ hm2); have HG2 := Fact.mk (grown_trans K.out.2.2.2.2.2 hg2); have c0 := hg2.cell K.out.1 (by simpa using hne.symm); have c1 := hg2.cell K.out.2.1 (by simpa using hne.symm); have c2 := hg2.cell K.out.2.2.1 (by simpa using hne.symm); have c3 := hg2.cell K.out.2.2.2.1 (by simpa using hne.symm); clear hm2 hg2) | (go_at_call 111; refine (named_any _ _).mono ?_; rintro e w' ⟨rfl, rfl⟩) | (go_at_call 112; refine (typed_any _ _).mono ?_; rintro e w' ⟨rfl, rfl⟩) | (go_at_call 113; refine (within_any _ _ _).mono ?_; rintro e w' ⟨rfl, rfl⟩))
  all_goals go_ret
  all_goals (refine ⟨ret_bool ?_, HM2.out, HG2.out⟩; clear HM2 HG2 K hm1 HF HV; first | (simp_all; done) | (simp_all; omega))
end Go.Proofs.Ytiogpainajokkaa

namespace Go.Proofs.Ytiogpainajokkaa
open Go.RowKit Go.Shelf
def oddB (k : Int) : Bool := decide (k < 1) || decide (11 < k)
theorem odd_any (k : Int) (w : World) : Calls Try.prog 115 #[.int .u8 k] w fun e w' => e = .returned (.bool (oddB k)) ∧ w = w' := by
  unfold oddB
  go_enter Try.func115, Try.ntmps115
  go_wp2
  all_goals go_ret
  all_goals (refine ⟨ret_bool ?_, rfl⟩; first | (simp_all; done) | (simp_all; omega))
/-- A program's box: its four cells. -/
structure CodeBox (w : World) (c : GCode) (vs bs is : Value) (bc : Nat) : Prop where
  k0 : w.cell? ⟨bc, 0, none⟩ = some (.string c.name)
  k1 : w.cell? ⟨bc, 1, none⟩ = some vs
  k2 : w.cell? ⟨bc, 2, none⟩ = some bs
  k3 : w.cell? ⟨bc, 3, none⟩ = some is
theorem CodeBox.below {w w' : World} {c : GCode} {vs bs is : Value} {bc : Nat} (h : CodeBox w c vs bs is bc) (hb : Below w.heap.size w w') : CodeBox w' c vs bs is bc := ⟨cell_below hb _ _ h.k0, cell_below hb _ _ h.k1, cell_below hb _ _ h.k2, cell_below hb _ _ h.k3⟩
set_option maxHeartbeats 1000000 in
theorem unfit_any (c : GCode) (i : GIns) (vs bs is : Value) (bc : Nat) (w : World) (h : CodeRd w c vs bs is) (hw : i.Wf) (hn : (c.ins.length : Int) < 9223372036854775807) (hB : CodeBox w c vs bs is bc) :
    Calls Try.prog 118 #[.agg #[.int .u8 i.op, .int .u8 i.t, .int .i64 i.a, .int .i64 i.n], .pointer (some ⟨bc, 0, none⟩)] w fun e w' => e = .returned (.bool (!(fitsB c i))) ∧ Below w.heap.size w w' := by
  obtain ⟨k0, k1, k2, k3⟩ := hB
  have hb1 := (Below.refl w.heap.size w).alloc (Nat.le_refl _) (.cells #[.int .u8 i.op, .int .u8 i.t, .int .i64 i.a, .int .i64 i.n] 49)
  have h' := Fact.mk (h.below hb1)
  have j0 := cell_below hb1 _ _ k0
  have j1 := cell_below hb1 _ _ k1
  have j2 := cell_below hb1 _ _ k2
  have j3 := cell_below hb1 _ _ k3
  have HB := Fact.mk hb1
  clear h hb1 k0 k1 k2 k3
  go_enter Try.func118, Try.ntmps118
  go_wp2_with (go_at_call 119; refine (fits_any c i vs bs is _ h'.out hw hn).mono ?_; rintro e w' ⟨rfl, hb⟩)
  go_ret
  exact ⟨rfl, HB.out.trans (hb.mono HB.out.size)⟩
def namesRev (xs : List GVar) (j : Nat) : List ByteArray := ((xs.take j).map (·.name)).reverse
theorem namesRev_succ (xs : List GVar) (j : Nat) (h : j < xs.length) : namesRev xs (j + 1) = xs[j].name :: namesRev xs j := by
  unfold namesRev
  rw [List.take_succ_eq_append_getElem h, List.map_append, List.reverse_append]
  rfl
def varBad (xs : List GVar) (j : Nat) : Bool := match xs[j]? with | some v => wrongB (namesRev xs j) v | none => false
def blockBad (xs : List Int) (j : Nat) : Bool := match xs[j]? with | some k => oddB k | none => false
def insBad (c : GCode) (j : Nat) : Bool := match c.ins[j]? with | some i => !(fitsB c i) | none => false
def varsBad (c : GCode) : Bool := decide (0 ≤ idxFrom (varBad c.vars) c.vars.length 0)
def blocksBad (c : GCode) : Bool := decide (0 ≤ idxFrom (blockBad c.blocks) c.blocks.length 0)
def inssBad (c : GCode) : Bool := decide (0 ≤ idxFrom (insBad c) c.ins.length 0)
def rightB (c : GCode) : Bool := namedB c.name && decide (c.vars.length ≤ 200) && decide (c.blocks.length ≤ 100) && decide (1 ≤ c.ins.length) && decide (c.ins.length ≤ 2000) && !(varsBad c) && !(blocksBad c) && !(inssBad c)
/-- What holds in the world while Right runs. -/
structure RSt (w0 : World) (c : GCode) (vs bs is : Value) (bc : Nat) (W : World) : Prop where
  bel : Below w0.heap.size w0 W
  rd : CodeRd W c vs bs is
  box : CodeBox W c vs bs is bc
theorem RSt.below {w0 : World} {c : GCode} {vs bs is : Value} {bc : Nat} {W W' : World} (h : RSt w0 c vs bs is bc W) (hb : Below W.heap.size W W') : RSt w0 c vs bs is bc W' :=
  ⟨h.bel.trans (hb.mono h.bel.size), h.rd.below hb, h.box.below hb⟩
theorem vars_any (w0 : World) (c : GCode) (vs bs is : Value) (bc sb M : Nat) (w : World) (hw : c.Wf) (h : RSt w0 c vs bs is bc w) (hB0 : w0.heap.size ≤ M) (hs : w.cell? ⟨sb, 0, none⟩ = some (.map (some M))) (hm : MapFn mkStr w M (setFn [])) :
    Calls Try.prog 114 #[vs, .func (.func 110) #[] #[.pointer (some ⟨sb, 0, none⟩)]] w fun e w' => e = .returned (.bool (varsBad c)) ∧ RSt w0 c vs bs is bc w' := by
  have hmv : ∀ W W' : World, ∀ f, MapFn mkStr W M f → W.grownBy W' (some M) → ∀ a u, W.cell? a = some u → W'.cell? a = some u := fun W W' f hf hg a u hc => hg.cell hc (by
    have := isMap_ne hf hc
    intro e; injection e with e; exact this e)
  refine (conVar_any (fun j W => RSt w0 c vs bs is bc W ∧ W.cell? ⟨sb, 0, none⟩ = some (.map (some M)) ∧ MapFn mkStr W M (setFn (namesRev c.vars j))) (varBad c.vars) _ _ (enters_of Try.func110 (by kernel_rfl) rfl) vs c.vars w ⟨h, hs, hm⟩ (fun j W hI => hI.1.rd.vars) ?_).mono ?_
  · rintro j hj W ⟨h1, h2, h3⟩
    refine (wrong_any c.vars[j] (hw.vars _ (List.getElem_mem hj)) sb M _ W h2 h3).mono ?_
    rintro e w' ⟨rfl, h4, h5⟩
    have mv := hmv W w' _ h3 h5
    refine ⟨ret_bool (by simp [varBad, hj]), ⟨h1.bel.grown h5 h1.bel.size (fun k hk => by cases hk; exact hB0), ⟨h1.rd.vars.move mv, h1.rd.blocks.move mv, h1.rd.ins.move mv⟩, ⟨mv _ _ h1.box.k0, mv _ _ h1.box.k1, mv _ _ h1.box.k2, mv _ _ h1.box.k3⟩⟩, mv _ _ h2, ?_⟩
    rw [namesRev_succ _ _ hj]
    exact h4
  · rintro e w' ⟨rfl, j, h1, _⟩
    exact ⟨rfl, h1⟩
theorem blocks_any (w0 : World) (c : GCode) (vs bs is : Value) (bc : Nat) (w : World) (h : RSt w0 c vs bs is bc w) :
    Calls Try.prog 116 #[bs, .func (.func 115) #[] #[]] w fun e w' => e = .returned (.bool (blocksBad c)) ∧ RSt w0 c vs bs is bc w' := by
  refine (conBKind_any (fun _ W => RSt w0 c vs bs is bc W) (blockBad c.blocks) _ _ (enters_of Try.func115 (by kernel_rfl) rfl) bs c.blocks w h (fun j W hI => hI.rd.blocks) ?_).mono ?_
  · intro j hj W h1
    refine (odd_any c.blocks[j] W).mono ?_
    rintro e w' ⟨rfl, rfl⟩
    exact ⟨ret_bool (by simp [blockBad, hj]), h1⟩
  · rintro e w' ⟨rfl, j, h1⟩
    exact ⟨rfl, h1⟩
theorem inss_any (w0 : World) (c : GCode) (vs bs is : Value) (bc : Nat) (w : World) (hw : c.Wf) (hn : (c.ins.length : Int) < 9223372036854775807) (h : RSt w0 c vs bs is bc w) :
    Calls Try.prog 117 #[is, .func (.func 118) #[] #[.pointer (some ⟨bc, 0, none⟩)]] w fun e w' => e = .returned (.bool (inssBad c)) ∧ RSt w0 c vs bs is bc w' := by
  refine (conIns_any (fun _ W => RSt w0 c vs bs is bc W) (insBad c) _ _ (enters_of Try.func118 (by kernel_rfl) rfl) is c.ins w h (fun j W hI => hI.rd.ins) ?_).mono ?_
  · intro j hj W h1
    refine (unfit_any c c.ins[j] vs bs is bc W h1.rd (hw.ins _ (List.getElem_mem hj)) hn h1.box).mono ?_
    rintro e w' ⟨rfl, hb⟩
    exact ⟨ret_bool (by simp [insBad, hj]), h1.below hb⟩
  · rintro e w' ⟨rfl, j, h1⟩
    exact ⟨rfl, h1⟩
end Go.Proofs.Ytiogpainajokkaa

namespace Go.Proofs.Ytiogpainajokkaa
open Go.RowKit Go.Shelf
set_option maxHeartbeats 2000000 in
set_option maxRecDepth 100000 in
theorem right_any (c : GCode) (hw : c.Wf) (hn : (c.ins.length : Int) < 9223372036854775807) (vs bs is : Value) (w : World) (h : CodeRd w c vs bs is) :
    Calls Try.prog 69 #[.agg #[.string c.name, vs, bs, is]] w fun e w' => e = .returned (.bool (rightB c)) ∧ Below w.heap.size w w' := by
  have hmm := @run_makeMap Try.prog
  obtain ⟨A1, c1, rfl⟩ : ∃ A c', vs = .slice A c.vars.length c' := by obtain ⟨_, A, c', h, _⟩ := h.vars; exact ⟨A, c', h⟩
  obtain ⟨A2, c2, rfl⟩ : ∃ A c', bs = .slice A c.blocks.length c' := by obtain ⟨_, A, c', h, _⟩ := h.blocks; exact ⟨A, c', h⟩
  obtain ⟨A3, c3, rfl⟩ : ∃ A c', is = .slice A c.ins.length c' := by obtain ⟨_, A, c', h, _⟩ := h.ins; exact ⟨A, c', h⟩
  have hr : rightB c = (namedB c.name && decide ((c.vars.length : Int) ≤ 200) && decide ((c.blocks.length : Int) ≤ 100) && decide (1 ≤ (c.ins.length : Int)) && decide ((c.ins.length : Int) ≤ 2000) && !(varsBad c) && !(blocksBad c) && !(inssBad c)) := by
    have e1 : decide ((c.vars.length : Int) ≤ 200) = decide (c.vars.length ≤ 200) := by rw [decide_eq_decide]; omega
    have e2 : decide ((c.blocks.length : Int) ≤ 100) = decide (c.blocks.length ≤ 100) := by rw [decide_eq_decide]; omega
    have e3 : decide (1 ≤ (c.ins.length : Int)) = decide (1 ≤ c.ins.length) := by rw [decide_eq_decide]; omega
    have e4 : decide ((c.ins.length : Int) ≤ 2000) = decide (c.ins.length ≤ 2000) := by rw [decide_eq_decide]; omega
    rw [e1, e2, e3, e4]
    rfl
  rw [hr]
  clear hr
  have m1 := h.vars.1
  have m2 := h.blocks.1
  have m3 := h.ins.1
  generalize gb0 : namedB c.name = b0
  generalize gb1 : varsBad c = b1
  generalize gb2 : blocksBad c = b2
  generalize gb3 : inssBad c = b3
  have F := Fact.mk (And.intro gb0 (And.intro gb1 (And.intro gb2 gb3)))
  clear gb0 gb1 gb2 gb3
  have H := Fact.mk h
  clear h
  go_enter Try.func69, Try.ntmps69
  go_wp2_with fail
  obtain ⟨w0, hW, hb0, hbC, hbM, hbS, hsz⟩ := three_blocks w (.cells #[.string c.name, .slice A1 c.vars.length c1, .slice A2 c.blocks.length c2, .slice A3 c.ins.length c3] 26) (.map #[] 0) (.cells #[.map (some (w.heap.size + 1))] 197)
  rw [← hW]
  clear hW hmm
  have hRS : RSt w c (.slice A1 c.vars.length c1) (.slice A2 c.blocks.length c2) (.slice A3 c.ins.length c3) w.heap.size w0 :=
    ⟨hb0, H.out.below hb0, ⟨by rw [cell_of_row _ _ 0 _ _ _ hbC]; rfl, by rw [cell_of_row _ _ 1 _ _ _ hbC]; rfl, by rw [cell_of_row _ _ 2 _ _ _ hbC]; rfl, by rw [cell_of_row _ _ 3 _ _ _ hbC]; rfl⟩⟩
  have hS : w0.cell? ⟨w.heap.size + 1 + 1, 0, none⟩ = some (.map (some (w.heap.size + 1))) := by rw [cell_of_row _ _ 0 _ _ _ hbS]; rfl
  have hM : MapFn mkStr w0 (w.heap.size + 1) (setFn []) := ⟨[], ⟨#[], 0, hbM, rfl⟩, fun a => rfl⟩
  have B0 := hRS.box
  obtain ⟨k0, k1, k2, k3⟩ := B0
  have HR := Fact.mk hRS
  have HM := Fact.mk hM
  clear hRS hM hb0 hbC hbM hbS hsz H
  refine (named_any _ _).mono ?_
  rintro e w' ⟨rfl, rfl⟩
  rw [F.out.1]
  cases b0 with
  | false =>
    go_wp2_with fail
    go_ret
    exact ⟨ret_bool (by simp), HR.out.bel⟩
  | true =>
  by_cases q1 : (c.vars.length : Int) ≤ 200
  case neg =>
    go_wp2_with fail
    go_ret
    exact ⟨ret_bool (by simp; intros; omega), HR.out.bel⟩
  by_cases q2 : (c.blocks.length : Int) ≤ 100
  case neg =>
    go_wp2_with fail
    go_ret
    exact ⟨ret_bool (by simp; intros; omega), HR.out.bel⟩
  by_cases q3 : 1 ≤ (c.ins.length : Int)
  case neg =>
    go_wp2_with fail
    go_ret
    exact ⟨ret_bool (by simp; intros; omega), HR.out.bel⟩
  by_cases q4 : (c.ins.length : Int) ≤ 2000
  case neg =>
    go_wp2_with fail
    go_ret
    exact ⟨ret_bool (by simp; intros; omega), HR.out.bel⟩
  have Q := Fact.mk (And.intro q1 (And.intro q2 (And.intro q3 q4)))
  have e1 : decide (200 < (c.vars.length : Int)) = false := by rw [decide_eq_false_iff_not]; omega
  have e2 : decide (100 < (c.blocks.length : Int)) = false := by rw [decide_eq_false_iff_not]; omega
  have e3 : decide ((c.ins.length : Int) < 1) = false := by rw [decide_eq_false_iff_not]; omega
  have e4 : decide (2000 < (c.ins.length : Int)) = false := by rw [decide_eq_false_iff_not]; omega
  go_wp2_with fail
  refine (vars_any w c _ _ _ w.heap.size (w.heap.size + 1 + 1) (w.heap.size + 1) _ hw HR.out (by omega) hS HM.out).mono ?_
  rw [F.out.2.1]
  rintro e w1 ⟨rfl, h1⟩
  have h1' := Fact.mk h1
  obtain ⟨a0, a1, a2, a3⟩ := h1.box
  clear h1 hS k0 k1 k2 k3 m1 m2 m3 q1 q2 q3 q4
  cases b1 with
  | true =>
    go_wp2_with fail
    go_ret
    exact ⟨ret_bool (by simp), h1'.out.bel⟩
  | false =>
  go_wp2_with fail
  refine (blocks_any w c _ _ _ w.heap.size _ h1'.out).mono ?_
  rw [F.out.2.2.1]
  rintro e w2 ⟨rfl, h2⟩
  have h2' := Fact.mk h2
  obtain ⟨d0, d1, d2, d3⟩ := h2.box
  clear h2 a0 a1 a2 a3
  cases b2 with
  | true =>
    go_wp2_with fail
    go_ret
    exact ⟨ret_bool (by simp), h2'.out.bel⟩
  | false =>
  go_wp2_with fail
  refine (inss_any w c _ _ _ w.heap.size _ hw hn h2'.out).mono ?_
  rw [F.out.2.2.2]
  rintro e w3 ⟨rfl, h3⟩
  have h3' := Fact.mk h3
  clear h3
  go_wp2_with fail
  go_ret
  exact ⟨ret_bool (by simp [Q.out.1, Q.out.2.1, Q.out.2.2.1, Q.out.2.2.2]), h3'.out.bel⟩
end Go.Proofs.Ytiogpainajokkaa

namespace Go.Proofs.Ytiogpainajokkaa
theorem idx_none {p : Nat → Bool} {n : Nat} (h : decide (0 ≤ idxFrom p n 0) = false) : ∀ i, i < n → p i = false := by
  intro i hi
  have h1 := of_decide_eq_false h
  cases hp : p i with
  | false => rfl
  | true => exact absurd ((idxFrom_any p n 0).2 ⟨i, by omega, by omega, hp⟩) h1
theorem range_bound (t : Int) : -2147483648 ≤ (rangeOf t).1 ∧ (rangeOf t).1 ≤ 0 ∧ 0 ≤ (rangeOf t).2 ∧ (rangeOf t).2 ≤ 4294967295 := by
  unfold rangeOf
  repeat' split
  all_goals simp
structure GoodVar (v : GVar) : Prop where
  name : 1 ≤ v.name.size ∧ v.name.size ≤ 40
  cls : 1 ≤ v.cls ∧ v.cls ≤ 4
  ty : 1 ≤ v.ty ∧ v.ty ≤ 5
  first : (rangeOf v.ty).1 ≤ v.first ∧ v.first ≤ (rangeOf v.ty).2
theorem good_of_wrong {l : List ByteArray} {v : GVar} (h : wrongB l v = false) : GoodVar v ∧ memB v.name l = false := by
  simp only [wrongB, Bool.or_eq_false_iff, Bool.not_eq_false', decide_eq_false_iff_not, namedB, typedB, withinB, Bool.and_eq_true, decide_eq_true_eq] at h
  obtain ⟨⟨⟨⟨⟨h1, h2⟩, h3⟩, h4⟩, h5⟩, h6⟩ := h
  exact ⟨⟨h2, by omega, h5, h6⟩, h1⟩
theorem right_parts {c : GCode} (h : rightB c = true) : (1 ≤ c.name.size ∧ c.name.size ≤ 40) ∧ c.vars.length ≤ 200 ∧ c.blocks.length ≤ 100 ∧ 1 ≤ c.ins.length ∧ c.ins.length ≤ 2000 ∧ (∀ i, (hi : i < c.vars.length) → GoodVar c.vars[i] ∧ memB c.vars[i].name (namesRev c.vars i) = false) ∧ (∀ i, (hi : i < c.blocks.length) → 1 ≤ c.blocks[i] ∧ c.blocks[i] ≤ 11) ∧ ∀ i, (hi : i < c.ins.length) → fitsB c c.ins[i] = true := by
  simp only [rightB, Bool.and_eq_true, Bool.not_eq_true', decide_eq_true_eq, namedB] at h
  obtain ⟨⟨⟨⟨⟨⟨⟨h0, h1⟩, h2⟩, h3⟩, h4⟩, h5⟩, h6⟩, h7⟩ := h
  refine ⟨h0, h1, h2, h3, h4, fun i hi => ?_, fun i hi => ?_, fun i hi => ?_⟩
  · have := idx_none h5 i hi
    simp only [varBad, List.getElem?_eq_getElem hi] at this
    exact good_of_wrong this
  · have := idx_none h6 i hi
    simp only [blockBad, List.getElem?_eq_getElem hi, oddB, Bool.or_eq_false_iff, decide_eq_false_iff_not] at this
    omega
  · have := idx_none h7 i hi
    simp only [insBad, List.getElem?_eq_getElem hi, Bool.not_eq_false'] at this
    exact this
theorem pins_len (k : Int) : (pinsOut k).length ≤ 3 := by
  refine Nat.le_trans (typesOf_len _) ?_
  unfold pinStr
  repeat' split
  all_goals simp
theorem chk_bound {c : GCode} {i : GIns} {ch : UInt8} {n : Int} (h : chk c i ch n = true) (hv : c.vars.length ≤ 200) (hb : c.blocks.length ≤ 100) (hi : c.ins.length ≤ 2000) : (-2147483648 ≤ n ∧ n ≤ 4294967295) ∧ (ch ≠ 110 → 0 ≤ n ∧ n ≤ 2000) := by
  have hp := pins_len (c.blocks.getD i.a.toNat 0)
  have hr := range_bound i.t
  unfold chk at h
  repeat' split at h
  all_goals first
    | (cases h; done)
    | (simp only [belowB, Bool.and_eq_true, decide_eq_true_eq] at h; omega)
    | (simp only [typedB, Bool.and_eq_true, decide_eq_true_eq] at h; omega)
    | (simp only [wholeB, typedB, Bool.and_eq_true, decide_eq_true_eq] at h; omega)
    | (simp only [storeB, belowB, Bool.and_eq_true, decide_eq_true_eq] at h; obtain ⟨⟨h1, h2⟩, _⟩ := h; omega)
    | (simp only [withinB, Bool.and_eq_true, decide_eq_true_eq] at h; rename_i h1; exact ⟨by omega, fun h2 => absurd h1 h2⟩)
structure GoodIns (i : GIns) : Prop where
  op : 1 ≤ i.op ∧ i.op ≤ 22
  t : 0 ≤ i.t ∧ i.t ≤ 2000
  a : 0 ≤ i.a ∧ i.a ≤ 2000
  n : -2147483648 ≤ i.n ∧ i.n ≤ 4294967295
theorem shape_op {o : Int} (h : shapeStr o ≠ []) : 1 ≤ o ∧ o ≤ 22 := by
  by_cases h1 : 1 ≤ o ∧ o ≤ 22
  · exact h1
  · exfalso
    apply h
    unfold shapeStr
    have n : ∀ k : Int, 1 ≤ k → k ≤ 22 → o ≠ k := fun k _ _ e => h1 (by omega)
    simp only [if_neg (n 1 (by omega) (by omega)), if_neg (n 2 (by omega) (by omega)), if_neg (n 3 (by omega) (by omega)), if_neg (n 4 (by omega) (by omega)), if_neg (n 5 (by omega) (by omega)), if_neg (n 6 (by omega) (by omega)), if_neg (n 7 (by omega) (by omega)), if_neg (n 8 (by omega) (by omega)), if_neg (n 9 (by omega) (by omega)), if_neg (n 10 (by omega) (by omega)), if_neg (n 11 (by omega) (by omega)), if_neg (n 12 (by omega) (by omega)), if_neg (n 13 (by omega) (by omega)), if_neg (n 14 (by omega) (by omega)), if_neg (n 15 (by omega) (by omega)), if_neg (n 16 (by omega) (by omega)), if_neg (n 17 (by omega) (by omega)), if_neg (n 18 (by omega) (by omega)), if_neg (n 19 (by omega) (by omega)), if_neg (n 20 (by omega) (by omega)), if_neg (n 21 (by omega) (by omega)), if_neg (n 22 (by omega) (by omega))]
theorem good_ins {c : GCode} {i : GIns} (h : fitsB c i = true) (hv : c.vars.length ≤ 200) (hb : c.blocks.length ≤ 100) (hi : c.ins.length ≤ 2000) : GoodIns i := by
  rcases shape_cases i.op with h0 | ⟨a0, a1, a2, hs, h0, h1, h2⟩
  · simp [fitsB, h0] at h
  · have ho : shapeStr i.op ≠ [] := by rw [hs]; simp
    simp only [fitsB, hs, Bool.and_eq_true] at h
    obtain ⟨⟨g0, g1⟩, g2⟩ := h
    have b0 := (chk_bound g0 hv hb hi).2 (by rcases h0 with h | h | h <;> (rw [h]; decide))
    have b1 := (chk_bound g1 hv hb hi).2 (by rcases h1 with h | h | h | h | h | h <;> (rw [h]; decide))
    exact ⟨shape_op ho, b0, b1, (chk_bound g2 hv hb hi).1⟩
end Go.Proofs.Ytiogpainajokkaa

