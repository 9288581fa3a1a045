/-
  No cell of these rows narrows 'for every input' (looked for: loops, veiled, ifaces, maps, wideKeys, modest, calm, conditions, laid).
  DERIVED. THE GIVEN ROWS OF THIS SEAT. 8 by the template 'for every input the law returns true; each argument reads behind the call as it read before'; 0 by the template 'total and deterministic' (their statements: YtjanofopmmndoaaTotals.lean).
  GIVEN WITH THE SEED: the statements are not yours to turn. If you find one false, say at which input.
  Laid BY PROGRAM, IN A SANDBOX (cutbox-rows.mjs): the forced cells as the released guide's own fill.sh prints them over the translation 913a778a05807548… (all of the seat's roots in one cut). By AI agents, Wed Nov 11 2026. No macro, syntax, notation, axiom, sorry.
-/
import Derived.Test.YtjanofopmmndoaaChecked
import GoSem.Claim
import GoSem.ClaimJoined
import GoSem.ClaimMapViews
import Derived.JoinedTies
import Derived.KernelRfl
namespace Go.Proofs.Ytjanofopmmndoaa
/- THE CELL 'sum', in the pinned program and in every row, IS THE sha256 OF THE DUMP (.gsa) THAT YtjanofopmmndoaaProg.lean LOADS. Nothing in Lean hashes anything: it is a label: what it is worth is what the hold of that sum in a sandbox is worth. -/
noncomputable def Try.pinned : Pinned := { name := "ytjanofopmmndoaa", sum := "913a778a058075484dd1939a8626ca5d6e6ba4607f5fd19a986b259000f1f97b", checked := Try.checked }
namespace Rows
def none {H : Type} : Left H := { results := [], args := [] }

/-- 'blockhouselaw15.BlocksTell': WHATEVER THE INPUT: true; the input reads as it did. -/
def blocksTellSpec : ChangeSpec := { name := "blocksTell", fn := fun _ => fun
  | [d1, d2, d3] => { results := [.lit (.bool true)], args := [d1, d2, d3] }
  | _ => none }
def blocksTellRow : OpenClaim := { program := "ytjanofopmmndoaa", sum := "913a778a058075484dd1939a8626ca5d6e6ba4607f5fd19a986b259000f1f97b", func := "blockhouse/blockhouselaw15.BlocksTell", spec := "blocksTell", unfollowed := true, recurses := true, apart := false }
def BlocksTellSaid : Prop := blocksTellRow.holds Try.pinned (OpenSpec.ofChange blocksTellSpec)

/-- ITS FALSE NEIGHBOUR: 'it returns false'. Refute it at one input. -/
def blocksTellWrong : ChangeSpec := { name := "blocksTell", fn := fun _ => fun
  | [d1, d2, d3] => { results := [.lit (.bool false)], args := [d1, d2, d3] }
  | _ => none }
def BlocksTellWrongFalsely : Prop := blocksTellRow.holds Try.pinned (OpenSpec.ofChange blocksTellWrong)

/-- 'blockhouselaw15.BlocksLate': WHATEVER THE INPUT: true; the input reads as it did. -/
def blocksLateSpec : ChangeSpec := { name := "blocksLate", fn := fun _ => fun
  | [d1, d2, d3] => { results := [.lit (.bool true)], args := [d1, d2, d3] }
  | _ => none }
def blocksLateRow : OpenClaim := { program := "ytjanofopmmndoaa", sum := "913a778a058075484dd1939a8626ca5d6e6ba4607f5fd19a986b259000f1f97b", func := "blockhouse/blockhouselaw15.BlocksLate", spec := "blocksLate", unfollowed := true, recurses := true, apart := false }
def BlocksLateSaid : Prop := blocksLateRow.holds Try.pinned (OpenSpec.ofChange blocksLateSpec)

/-- ITS FALSE NEIGHBOUR: 'it returns false'. Refute it at one input. -/
def blocksLateWrong : ChangeSpec := { name := "blocksLate", fn := fun _ => fun
  | [d1, d2, d3] => { results := [.lit (.bool false)], args := [d1, d2, d3] }
  | _ => none }
def BlocksLateWrongFalsely : Prop := blocksLateRow.holds Try.pinned (OpenSpec.ofChange blocksLateWrong)

/-- 'blockhouselaw15.BlocksCount': WHATEVER THE INPUT: true; the input reads as it did. -/
def blocksCountSpec : ChangeSpec := { name := "blocksCount", fn := fun _ => fun
  | [d1, d2] => { results := [.lit (.bool true)], args := [d1, d2] }
  | _ => none }
def blocksCountRow : OpenClaim := { program := "ytjanofopmmndoaa", sum := "913a778a058075484dd1939a8626ca5d6e6ba4607f5fd19a986b259000f1f97b", func := "blockhouse/blockhouselaw15.BlocksCount", spec := "blocksCount", unfollowed := true, recurses := true, apart := false }
def BlocksCountSaid : Prop := blocksCountRow.holds Try.pinned (OpenSpec.ofChange blocksCountSpec)

/-- ITS FALSE NEIGHBOUR: 'it returns false'. Refute it at one input. -/
def blocksCountWrong : ChangeSpec := { name := "blocksCount", fn := fun _ => fun
  | [d1, d2] => { results := [.lit (.bool false)], args := [d1, d2] }
  | _ => none }
def BlocksCountWrongFalsely : Prop := blocksCountRow.holds Try.pinned (OpenSpec.ofChange blocksCountWrong)

/-- 'blockhouselaw15.BlocksTurn': WHATEVER THE INPUT: true; the input reads as it did. -/
def blocksTurnSpec : ChangeSpec := { name := "blocksTurn", fn := fun _ => fun
  | [d] => { results := [.lit (.bool true)], args := [d] }
  | _ => none }
def blocksTurnRow : OpenClaim := { program := "ytjanofopmmndoaa", sum := "913a778a058075484dd1939a8626ca5d6e6ba4607f5fd19a986b259000f1f97b", func := "blockhouse/blockhouselaw15.BlocksTurn", spec := "blocksTurn", unfollowed := true, recurses := true, apart := false }
def BlocksTurnSaid : Prop := blocksTurnRow.holds Try.pinned (OpenSpec.ofChange blocksTurnSpec)

/-- ITS FALSE NEIGHBOUR: 'it returns false'. Refute it at one input. -/
def blocksTurnWrong : ChangeSpec := { name := "blocksTurn", fn := fun _ => fun
  | [d] => { results := [.lit (.bool false)], args := [d] }
  | _ => none }
def BlocksTurnWrongFalsely : Prop := blocksTurnRow.holds Try.pinned (OpenSpec.ofChange blocksTurnWrong)

/-- 'blockhouselaw15.BlocksKeep': WHATEVER THE INPUT: true; the input reads as it did. -/
def blocksKeepSpec : ChangeSpec := { name := "blocksKeep", fn := fun _ => fun
  | [d1, d2, d3] => { results := [.lit (.bool true)], args := [d1, d2, d3] }
  | _ => none }
def blocksKeepRow : OpenClaim := { program := "ytjanofopmmndoaa", sum := "913a778a058075484dd1939a8626ca5d6e6ba4607f5fd19a986b259000f1f97b", func := "blockhouse/blockhouselaw15.BlocksKeep", spec := "blocksKeep", unfollowed := true, recurses := true, apart := false }
def BlocksKeepSaid : Prop := blocksKeepRow.holds Try.pinned (OpenSpec.ofChange blocksKeepSpec)

/-- ITS FALSE NEIGHBOUR: 'it returns false'. Refute it at one input. -/
def blocksKeepWrong : ChangeSpec := { name := "blocksKeep", fn := fun _ => fun
  | [d1, d2, d3] => { results := [.lit (.bool false)], args := [d1, d2, d3] }
  | _ => none }
def BlocksKeepWrongFalsely : Prop := blocksKeepRow.holds Try.pinned (OpenSpec.ofChange blocksKeepWrong)

/-- 'blockhouselaw15.BlocksOuts': WHATEVER THE INPUT: true; the input reads as it did. -/
def blocksOutsSpec : ChangeSpec := { name := "blocksOuts", fn := fun _ => fun
  | [d1, d2] => { results := [.lit (.bool true)], args := [d1, d2] }
  | _ => none }
def blocksOutsRow : OpenClaim := { program := "ytjanofopmmndoaa", sum := "913a778a058075484dd1939a8626ca5d6e6ba4607f5fd19a986b259000f1f97b", func := "blockhouse/blockhouselaw15.BlocksOuts", spec := "blocksOuts", unfollowed := true, recurses := true, apart := false }
def BlocksOutsSaid : Prop := blocksOutsRow.holds Try.pinned (OpenSpec.ofChange blocksOutsSpec)

/-- ITS FALSE NEIGHBOUR: 'it returns false'. Refute it at one input. -/
def blocksOutsWrong : ChangeSpec := { name := "blocksOuts", fn := fun _ => fun
  | [d1, d2] => { results := [.lit (.bool false)], args := [d1, d2] }
  | _ => none }
def BlocksOutsWrongFalsely : Prop := blocksOutsRow.holds Try.pinned (OpenSpec.ofChange blocksOutsWrong)

/-- 'blockhouselaw15.BlocksBack': WHATEVER THE INPUT: true; the input reads as it did. -/
def blocksBackSpec : ChangeSpec := { name := "blocksBack", fn := fun _ => fun
  | [d1, d2, d3, d4] => { results := [.lit (.bool true)], args := [d1, d2, d3, d4] }
  | _ => none }
def blocksBackRow : OpenClaim := { program := "ytjanofopmmndoaa", sum := "913a778a058075484dd1939a8626ca5d6e6ba4607f5fd19a986b259000f1f97b", func := "blockhouse/blockhouselaw15.BlocksBack", spec := "blocksBack", unfollowed := true, recurses := true, apart := false }
def BlocksBackSaid : Prop := blocksBackRow.holds Try.pinned (OpenSpec.ofChange blocksBackSpec)

/-- ITS FALSE NEIGHBOUR: 'it returns false'. Refute it at one input. -/
def blocksBackWrong : ChangeSpec := { name := "blocksBack", fn := fun _ => fun
  | [d1, d2, d3, d4] => { results := [.lit (.bool false)], args := [d1, d2, d3, d4] }
  | _ => none }
def BlocksBackWrongFalsely : Prop := blocksBackRow.holds Try.pinned (OpenSpec.ofChange blocksBackWrong)

/-- 'blockhouselaw15.BlocksEdge': WHATEVER THE INPUT: true; the input reads as it did. -/
def blocksEdgeSpec : ChangeSpec := { name := "blocksEdge", fn := fun _ => fun
  | [d] => { results := [.lit (.bool true)], args := [d] }
  | _ => none }
def blocksEdgeRow : OpenClaim := { program := "ytjanofopmmndoaa", sum := "913a778a058075484dd1939a8626ca5d6e6ba4607f5fd19a986b259000f1f97b", func := "blockhouse/blockhouselaw15.BlocksEdge", spec := "blocksEdge", unfollowed := true, recurses := true, apart := false }
def BlocksEdgeSaid : Prop := blocksEdgeRow.holds Try.pinned (OpenSpec.ofChange blocksEdgeSpec)

/-- ITS FALSE NEIGHBOUR: 'it returns false'. Refute it at one input. -/
def blocksEdgeWrong : ChangeSpec := { name := "blocksEdge", fn := fun _ => fun
  | [d] => { results := [.lit (.bool false)], args := [d] }
  | _ => none }
def BlocksEdgeWrongFalsely : Prop := blocksEdgeRow.holds Try.pinned (OpenSpec.ofChange blocksEdgeWrong)

/- THE SECOND FORM. 'bulk': how many values and letters a reading holds, each counted each time it is reached (what is shared counts as often as it is met; a slice's spare places count too). A statement '..UptoSaid' is the law's where the arguments, and the package variables that the reading takes, are together of bulk at most 1048576: NARROWER than '..Said'. Prove '..Said' where nothing that the law and all that it calls make is longer than what came in: it says more and counts as full. Else prove '..UptoSaid'. A law counts once. -/
mutual
def uptoBulk {H : Type} : DataW H → Nat
  | .lit (.string bytes) => bytes.length + 1
  | .lit _ => 1
  | .nil => 1
  | .ptr d => uptoBulk d + 1
  | .slice elems spare => uptoBulkAll elems + uptoBulkAll spare + 1
  | .agg parts => uptoBulkAll parts + 1
  | .iface _ d => uptoBulk d + 1
  | .map entries => uptoBulkEntries entries + 1
  | .held _ => 1
def uptoBulkAll {H : Type} : List (DataW H) → Nat
  | [] => 0
  | d :: r => uptoBulk d + uptoBulkAll r
def uptoBulkEntries {H : Type} : List (Lit × DataW H) → Nat
  | [] => 0
  | x :: r => uptoBulkEntry x + uptoBulkEntries r
def uptoBulkEntry {H : Type} : Lit × DataW H → Nat
  | (.string bytes, d) => bytes.length + uptoBulk d + 1
  | (_, d) => uptoBulk d + 1
 end
def uptoSmall : (H : Type) → List (DataW H) → Bool := fun _ ds => decide (uptoBulkAll ds ≤ 1048576)
def OpenSpec.upto (s : _root_.Go.ChangeSpec) : _root_.Go.OpenSpec := { _root_.Go.OpenSpec.ofChange s with cond := some uptoSmall }

/-- 'blockhouselaw15.BlocksTell', WHERE WHAT IT READS IS OF BULK AT MOST 1048576: true; the input reads as it did. -/
def blocksTellUptoRow : OpenClaim := { program := "ytjanofopmmndoaa", sum := "913a778a058075484dd1939a8626ca5d6e6ba4607f5fd19a986b259000f1f97b", func := "blockhouse/blockhouselaw15.BlocksTell", spec := "blocksTell", unfollowed := true, recurses := true, apart := false, narrowed := true }
def BlocksTellUptoSaid : Prop := blocksTellUptoRow.holds Try.pinned (OpenSpec.upto blocksTellSpec)

/-- 'blockhouselaw15.BlocksLate', WHERE WHAT IT READS IS OF BULK AT MOST 1048576: true; the input reads as it did. -/
def blocksLateUptoRow : OpenClaim := { program := "ytjanofopmmndoaa", sum := "913a778a058075484dd1939a8626ca5d6e6ba4607f5fd19a986b259000f1f97b", func := "blockhouse/blockhouselaw15.BlocksLate", spec := "blocksLate", unfollowed := true, recurses := true, apart := false, narrowed := true }
def BlocksLateUptoSaid : Prop := blocksLateUptoRow.holds Try.pinned (OpenSpec.upto blocksLateSpec)

/-- 'blockhouselaw15.BlocksCount', WHERE WHAT IT READS IS OF BULK AT MOST 1048576: true; the input reads as it did. -/
def blocksCountUptoRow : OpenClaim := { program := "ytjanofopmmndoaa", sum := "913a778a058075484dd1939a8626ca5d6e6ba4607f5fd19a986b259000f1f97b", func := "blockhouse/blockhouselaw15.BlocksCount", spec := "blocksCount", unfollowed := true, recurses := true, apart := false, narrowed := true }
def BlocksCountUptoSaid : Prop := blocksCountUptoRow.holds Try.pinned (OpenSpec.upto blocksCountSpec)

/-- 'blockhouselaw15.BlocksTurn', WHERE WHAT IT READS IS OF BULK AT MOST 1048576: true; the input reads as it did. -/
def blocksTurnUptoRow : OpenClaim := { program := "ytjanofopmmndoaa", sum := "913a778a058075484dd1939a8626ca5d6e6ba4607f5fd19a986b259000f1f97b", func := "blockhouse/blockhouselaw15.BlocksTurn", spec := "blocksTurn", unfollowed := true, recurses := true, apart := false, narrowed := true }
def BlocksTurnUptoSaid : Prop := blocksTurnUptoRow.holds Try.pinned (OpenSpec.upto blocksTurnSpec)

/-- 'blockhouselaw15.BlocksKeep', WHERE WHAT IT READS IS OF BULK AT MOST 1048576: true; the input reads as it did. -/
def blocksKeepUptoRow : OpenClaim := { program := "ytjanofopmmndoaa", sum := "913a778a058075484dd1939a8626ca5d6e6ba4607f5fd19a986b259000f1f97b", func := "blockhouse/blockhouselaw15.BlocksKeep", spec := "blocksKeep", unfollowed := true, recurses := true, apart := false, narrowed := true }
def BlocksKeepUptoSaid : Prop := blocksKeepUptoRow.holds Try.pinned (OpenSpec.upto blocksKeepSpec)

/-- 'blockhouselaw15.BlocksOuts', WHERE WHAT IT READS IS OF BULK AT MOST 1048576: true; the input reads as it did. -/
def blocksOutsUptoRow : OpenClaim := { program := "ytjanofopmmndoaa", sum := "913a778a058075484dd1939a8626ca5d6e6ba4607f5fd19a986b259000f1f97b", func := "blockhouse/blockhouselaw15.BlocksOuts", spec := "blocksOuts", unfollowed := true, recurses := true, apart := false, narrowed := true }
def BlocksOutsUptoSaid : Prop := blocksOutsUptoRow.holds Try.pinned (OpenSpec.upto blocksOutsSpec)

/-- 'blockhouselaw15.BlocksBack', WHERE WHAT IT READS IS OF BULK AT MOST 1048576: true; the input reads as it did. -/
def blocksBackUptoRow : OpenClaim := { program := "ytjanofopmmndoaa", sum := "913a778a058075484dd1939a8626ca5d6e6ba4607f5fd19a986b259000f1f97b", func := "blockhouse/blockhouselaw15.BlocksBack", spec := "blocksBack", unfollowed := true, recurses := true, apart := false, narrowed := true }
def BlocksBackUptoSaid : Prop := blocksBackUptoRow.holds Try.pinned (OpenSpec.upto blocksBackSpec)

/-- 'blockhouselaw15.BlocksEdge', WHERE WHAT IT READS IS OF BULK AT MOST 1048576: true; the input reads as it did. -/
def blocksEdgeUptoRow : OpenClaim := { program := "ytjanofopmmndoaa", sum := "913a778a058075484dd1939a8626ca5d6e6ba4607f5fd19a986b259000f1f97b", func := "blockhouse/blockhouselaw15.BlocksEdge", spec := "blocksEdge", unfollowed := true, recurses := true, apart := false, narrowed := true }
def BlocksEdgeUptoSaid : Prop := blocksEdgeUptoRow.holds Try.pinned (OpenSpec.upto blocksEdgeSpec)

end Rows
end Go.Proofs.Ytjanofopmmndoaa
