/- The contract of Great, as far as the laws need it. -/
import Derived.Test.YtiogpainajokkaaSpotsM
namespace Go.Proofs.Ytiogpainajokkaa
open Go.RowKit
def GreatPost (c : GCode) (w : World) (e : Ending) (w' : World) : Prop := ∃ g, e = .returned (.bool g) ∧ (g = false → c.vars.length ≤ 220 ∧ c.blocks.length ≤ 120 ∧ c.ins.length ≤ 2100 ∧ c.name.size ≤ 3000) ∧ Below w.heap.size w w'
set_option maxHeartbeats 1000000 in
set_option maxRecDepth 100000 in
theorem great_any (c : GCode) (vs bs is : Value) (w : World) (h : CodeRd w c vs bs is) (hn : c.name.size ≤ 9223372036854775807) (hv : ∀ x ∈ c.vars, x.name.size ≤ 9223372036854775807) :
    Calls Try.prog 12 #[.agg #[.string c.name, vs, bs, is]] w (GreatPost c w) := by
  obtain ⟨A1, c1, rfl⟩ : ∃ A c', vs = .slice A c.vars.length c' := by obtain ⟨_, A, c', h, _⟩ := h.vars; exact ⟨A, c', h⟩
  obtain ⟨A2, c2, rfl⟩ : ∃ A c', bs = .slice A c.blocks.length c' := by obtain ⟨_, A, c', h, _⟩ := h.blocks; exact ⟨A, c', h⟩
  obtain ⟨A3, c3, rfl⟩ : ∃ A c', is = .slice A c.ins.length c' := by obtain ⟨_, A, c', h, _⟩ := h.ins; exact ⟨A, c', h⟩
  have m1 := h.vars.1
  have m2 := h.blocks.1
  have m3 := h.ins.1
  have H := Fact.mk h
  have HV := Fact.mk hv
  clear h hv
  rcases (by omega : 220 < c.vars.length ∨ (c.vars.length ≤ 220 ∧ 120 < c.blocks.length) ∨ (c.vars.length ≤ 220 ∧ c.blocks.length ≤ 120 ∧ 2100 < c.ins.length) ∨ (c.vars.length ≤ 220 ∧ c.blocks.length ≤ 120 ∧ c.ins.length ≤ 2100 ∧ 3000 < c.name.size) ∨ (c.vars.length ≤ 220 ∧ c.blocks.length ≤ 120 ∧ c.ins.length ≤ 2100 ∧ c.name.size ≤ 3000)) with a1 | ⟨a1, a2⟩ | ⟨a1, a2, a3⟩ | ⟨a1, a2, a3, a4⟩ | ⟨a1, a2, a3, a4⟩
  case inr.inr.inr.inr =>
    go_enter Try.func12, Try.ntmps12
    go_wp2_with fail
    obtain ⟨b1, b2, b3⟩ := one_block w (.cells #[.string c.name, .slice A1 c.vars.length c1, .slice A2 c.blocks.length c2, .slice A3 c.ins.length c3] 26)
    generalize w.alloc (.cells #[.string c.name, .slice A1 c.vars.length c1, .slice A2 c.blocks.length c2, .slice A3 c.ins.length c3] 26) = w0 at *
    have B1 := Fact.mk b1
    have K1 : w0.cell? ⟨w.heap.size, 1, none⟩ = some (.slice A1 c.vars.length c1) := by rw [cell_of_row _ _ 1 _ _ _ b2]; rfl
    have RD := Fact.mk (H.out.vars.below b1)
    clear b1 b2 b3
    go_loopw [3, 30] (fun s i wr => ∃ (k : Nat) (m : Int), k ≤ c.vars.length ∧ i = .int .i64 k ∧ s = .int .i64 m ∧ Fact (wr = w0)) (fun _ i _ => c.vars.length - (intOf i).toNat)
    case atStart => exact ⟨0, 0, Nat.zero_le _, rfl, rfl, ⟨rfl⟩⟩
    case round =>
      obtain ⟨k, m, hk, rfl, rfl, hB⟩ := hrel
      obtain rfl := hB.out
      by_cases hlt : k < c.vars.length
      · obtain ⟨_, _, _, hv, _, _, hcell⟩ := RD.out
        obtain ⟨b, off, rfl, hcl⟩ := hcell (by omega)
        simp only [Value.slice.injEq, true_and] at hv
        obtain ⟨rfl, rfl⟩ := hv
        have q0 : wr.cell? ⟨b, off + k * 4, none⟩ = some (.string c.vars[k].name) := hcl k hlt 0 _ rfl
        have hsz := HV.out c.vars[k] (List.getElem_mem hlt)
        clear hcl hcell
        go_wp2_with fail
        go_roundw
        case rel => exact ⟨k + 1, _, by omega, by go_num, rfl, ⟨by trivial⟩⟩
        case measure => simp [intOf]; omega
      · obtain rfl : k = c.vars.length := by omega
        go_wp2_with fail
        go_ret
        exact ⟨_, rfl, fun _ => ⟨a1, a2, a3, a4⟩, B1.out⟩
  all_goals
    go_enter Try.func12, Try.ntmps12
    go_wp2_with fail
    go_ret
    exact ⟨_, rfl, (fun h => by cases h), (Below.refl _ _).alloc (Nat.le_refl _) _⟩
end Go.Proofs.Ytiogpainajokkaa

