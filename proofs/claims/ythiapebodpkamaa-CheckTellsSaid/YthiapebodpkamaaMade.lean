/- A new list of places. -/
import Derived.Test.YthiapebodpkamaaOneA
import Derived.Laws.MakeOwn
namespace Go.Proofs.Ythiapebodpkamaa
open Go.RowKit
theorem spot_info : ∃ i, Try.prog.info? 52 = some i ∧ i.zero = some (.agg #[.bool false, .slice none 0 0, .int .i64 0]) ∧ i.size = 3 ∧ i.bytes = 40 := by
  have h : (Try.prog.info? 52).map (fun i => (i.zero, i.size, i.bytes)) = some (some (.agg #[.bool false, .slice none 0 0, .int .i64 0]), 3, 40) := by kernel_rfl
  obtain ⟨i, h1, h2⟩ := Option.map_eq_some_iff.1 h
  simp only [Prod.mk.injEq] at h2
  exact ⟨i, h1, h2.1, h2.2.1, h2.2.2⟩
def noSpot : GSpot × Value := (⟨false, [], 0⟩, .slice none 0 0)
theorem made_sp (n : Nat) : madeCells #[.bool false, .slice none 0 0, .int .i64 0] (n * 3) = ((List.replicate n noSpot).flatMap encSp).toArray := by
  apply Array.ext
  · rw [size_madeCells, List.size_toArray, flatMap_len encSp_len, List.length_replicate]
  · intro j h1 h2
    rw [size_madeCells] at h1
    have hj : j / 3 < (List.replicate n noSpot).length := by rw [List.length_replicate]; omega
    have hlt : j % 3 < (encSp (List.replicate n noSpot)[j / 3]).length := by rw [encSp_len]; omega
    have h3 := flatMap_at encSp_len (List.replicate n noSpot) (j / 3) hj (j % 3) _ (List.getElem?_eq_getElem hlt)
    rw [show j / 3 * 3 + j % 3 = j by omega] at h3
    have e : (((List.replicate n noSpot).flatMap encSp).toArray)[j] = (encSp (List.replicate n noSpot)[j / 3])[j % 3] := by
      have := List.getElem?_eq_some_iff.1 h3
      obtain ⟨_, h4⟩ := this
      simpa using h4
    rw [e]
    simp only [List.getElem_replicate]
    have hm : (madeCells #[.bool false, .slice none 0 0, .int .i64 0] (n * 3))[j]? = some ((#[.bool false, .slice none 0 0, .int .i64 0] : Array Value)[j % 3]!) := by
      unfold madeCells
      rw [Array.getElem?_map, Array.getElem?_range, if_pos h1]
      rfl
    obtain ⟨_, hm2⟩ := Array.getElem?_eq_some_iff.1 hm
    rw [hm2]
    rcases (by omega : j % 3 = 0 ∨ j % 3 = 1 ∨ j % 3 = 2) with h | h | h
    all_goals
      simp only [h]
      rfl
def spRow (n : Nat) : Array Value := ((List.replicate n noSpot).flatMap encSp).toArray
theorem run_spots (n : Nat) (h : n ≤ 100000) (W : World) : (Instr.makeSlice 44 (.int .i64 (n : Int)) (.int .i64 (n : Int))).run Try.prog W = .ok (.slice (some ⟨W.heap.size, 0, none⟩) n n) (W.alloc (.cells (spRow n) 52)) := by
  obtain ⟨i, hi, hz0, hz1, hz2⟩ := spot_info
  have hr := run_make (P := Try.prog) W 44 52 i _ Try.underlying44 hi hz0 .i64 .i64 n n (by omega) (Int.le_refl _) (by rw [hz2]; omega) (by omega)
  rw [hr]
  simp only [Int.toNat_natCast, hz1]
  rw [show (Value.agg #[.bool false, .slice none 0 0, .int .i64 0]).cells = #[.bool false, .slice none 0 0, .int .i64 0] from rfl, made_sp]
  rfl
/-- The first place is where one begins. -/
theorem plc_new {W W' : World} {S : Nat} {n : Nat} (h : W.heap[S]? = some (.cells (spRow (n + 1)) 52 (0, 0))) (e : W'.heap[S]? = (W.setCell ⟨S, 0, none⟩ (.bool true)).heap[S]?) : Places W' S (start n) := by
  refine ⟨(⟨true, [], 0⟩, .slice none 0 0) :: List.replicate n noSpot, by simp [start, noSpot], ?_, fun x hx => ?_⟩
  · rw [e, heap_setCell_same W S 0 _ _ (.bool true) h]
    unfold spRow
    rw [List.replicate_succ, List.flatMap_cons]
    rfl
  · have hx2 : x.2 = .slice none 0 0 ∧ x.1.stack = [] := by
      rcases List.mem_cons.1 hx with rfl | hx
      · exact ⟨rfl, rfl⟩
      · obtain ⟨_, rfl⟩ := List.mem_replicate.1 hx
        exact ⟨rfl, rfl⟩
    rw [hx2.1, hx2.2]
    exact ⟨rd_nil _ _ _, fun e => by cases e⟩
end Go.Proofs.Ythiapebodpkamaa

