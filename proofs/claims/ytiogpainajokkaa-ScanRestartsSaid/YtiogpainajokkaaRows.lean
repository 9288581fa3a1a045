/-
  No cell of these rows narrows 'for every input' (looked for: loops, veiled, ifaces, maps, wideKeys, modest, calm, conditions, laid).
  DERIVED. THE GIVEN ROWS OF THIS SEAT. 9 by the template 'for every input the law returns true; each argument reads behind the call as it read before'; 0 by the template 'total and deterministic' (their statements: YtiogpainajokkaaTotals.lean).
  GIVEN WITH THE SEED: the statements are not yours to turn. If you find one false, say at which input.
  Laid BY PROGRAM, IN A SANDBOX (cutbox-rows.mjs): the forced cells as the released guide's own fill.sh prints them over the translation 92897869f7ef0ee5… (all of the seat's roots in one cut). By AI agents, Wed Nov 11 2026. No macro, syntax, notation, axiom, sorry.
-/
import Derived.Test.YtiogpainajokkaaChecked
import GoSem.Claim
import GoSem.ClaimJoined
import GoSem.ClaimMapViews
import Derived.JoinedTies
import Derived.KernelRfl
namespace Go.Proofs.Ytiogpainajokkaa
/- THE CELL 'sum', in the pinned program and in every row, IS THE sha256 OF THE DUMP (.gsa) THAT YtiogpainajokkaaProg.lean LOADS. Nothing in Lean hashes anything: it is a label: what it is worth is what the hold of that sum in a sandbox is worth. -/
noncomputable def Try.pinned : Pinned := { name := "ytiogpainajokkaa", sum := "92897869f7ef0ee5effa1a0e12a47d971a0460ddce5d76ee4e72a9d6f338717b", checked := Try.checked }
namespace Rows
def none {H : Type} : Left H := { results := [], args := [] }

/-- 'blockhouselaw16.ScanAlone': WHATEVER THE INPUT: true; the input reads as it did. -/
def scanAloneSpec : ChangeSpec := { name := "scanAlone", fn := fun _ => fun
  | [d1, d2] => { results := [.lit (.bool true)], args := [d1, d2] }
  | _ => none }
def scanAloneRow : OpenClaim := { program := "ytiogpainajokkaa", sum := "92897869f7ef0ee5effa1a0e12a47d971a0460ddce5d76ee4e72a9d6f338717b", func := "blockhouse/blockhouselaw16.ScanAlone", spec := "scanAlone", unfollowed := true, recurses := true, apart := false }
def ScanAloneSaid : Prop := scanAloneRow.holds Try.pinned (OpenSpec.ofChange scanAloneSpec)

/-- ITS FALSE NEIGHBOUR: 'it returns false'. Refute it at one input. -/
def scanAloneWrong : ChangeSpec := { name := "scanAlone", fn := fun _ => fun
  | [d1, d2] => { results := [.lit (.bool false)], args := [d1, d2] }
  | _ => none }
def ScanAloneWrongFalsely : Prop := scanAloneRow.holds Try.pinned (OpenSpec.ofChange scanAloneWrong)

/-- 'blockhouselaw16.ScanSigns': WHATEVER THE INPUT: true; the input reads as it did. -/
def scanSignsSpec : ChangeSpec := { name := "scanSigns", fn := fun _ => fun
  | [d1, d2, d3] => { results := [.lit (.bool true)], args := [d1, d2, d3] }
  | _ => none }
def scanSignsRow : OpenClaim := { program := "ytiogpainajokkaa", sum := "92897869f7ef0ee5effa1a0e12a47d971a0460ddce5d76ee4e72a9d6f338717b", func := "blockhouse/blockhouselaw16.ScanSigns", spec := "scanSigns", unfollowed := true, recurses := true, apart := false }
def ScanSignsSaid : Prop := scanSignsRow.holds Try.pinned (OpenSpec.ofChange scanSignsSpec)

/-- ITS FALSE NEIGHBOUR: 'it returns false'. Refute it at one input. -/
def scanSignsWrong : ChangeSpec := { name := "scanSigns", fn := fun _ => fun
  | [d1, d2, d3] => { results := [.lit (.bool false)], args := [d1, d2, d3] }
  | _ => none }
def ScanSignsWrongFalsely : Prop := scanSignsRow.holds Try.pinned (OpenSpec.ofChange scanSignsWrong)

/-- 'blockhouselaw16.ScanChoice': WHATEVER THE INPUT: true; the input reads as it did. -/
def scanChoiceSpec : ChangeSpec := { name := "scanChoice", fn := fun _ => fun
  | [d1, d2, d3, d4] => { results := [.lit (.bool true)], args := [d1, d2, d3, d4] }
  | _ => none }
def scanChoiceRow : OpenClaim := { program := "ytiogpainajokkaa", sum := "92897869f7ef0ee5effa1a0e12a47d971a0460ddce5d76ee4e72a9d6f338717b", func := "blockhouse/blockhouselaw16.ScanChoice", spec := "scanChoice", unfollowed := true, recurses := true, apart := false }
def ScanChoiceSaid : Prop := scanChoiceRow.holds Try.pinned (OpenSpec.ofChange scanChoiceSpec)

/-- ITS FALSE NEIGHBOUR: 'it returns false'. Refute it at one input. -/
def scanChoiceWrong : ChangeSpec := { name := "scanChoice", fn := fun _ => fun
  | [d1, d2, d3, d4] => { results := [.lit (.bool false)], args := [d1, d2, d3, d4] }
  | _ => none }
def ScanChoiceWrongFalsely : Prop := scanChoiceRow.holds Try.pinned (OpenSpec.ofChange scanChoiceWrong)

/-- 'blockhouselaw16.ScanBlocks': WHATEVER THE INPUT: true; the input reads as it did. -/
def scanBlocksSpec : ChangeSpec := { name := "scanBlocks", fn := fun _ => fun
  | [d1, d2] => { results := [.lit (.bool true)], args := [d1, d2] }
  | _ => none }
def scanBlocksRow : OpenClaim := { program := "ytiogpainajokkaa", sum := "92897869f7ef0ee5effa1a0e12a47d971a0460ddce5d76ee4e72a9d6f338717b", func := "blockhouse/blockhouselaw16.ScanBlocks", spec := "scanBlocks", unfollowed := true, recurses := true, apart := false }
def ScanBlocksSaid : Prop := scanBlocksRow.holds Try.pinned (OpenSpec.ofChange scanBlocksSpec)

/-- ITS FALSE NEIGHBOUR: 'it returns false'. Refute it at one input. -/
def scanBlocksWrong : ChangeSpec := { name := "scanBlocks", fn := fun _ => fun
  | [d1, d2] => { results := [.lit (.bool false)], args := [d1, d2] }
  | _ => none }
def ScanBlocksWrongFalsely : Prop := scanBlocksRow.holds Try.pinned (OpenSpec.ofChange scanBlocksWrong)

/-- 'blockhouselaw16.ScanKeeps': WHATEVER THE INPUT: true; the input reads as it did. -/
def scanKeepsSpec : ChangeSpec := { name := "scanKeeps", fn := fun _ => fun
  | [d1, d2] => { results := [.lit (.bool true)], args := [d1, d2] }
  | _ => none }
def scanKeepsRow : OpenClaim := { program := "ytiogpainajokkaa", sum := "92897869f7ef0ee5effa1a0e12a47d971a0460ddce5d76ee4e72a9d6f338717b", func := "blockhouse/blockhouselaw16.ScanKeeps", spec := "scanKeeps", unfollowed := true, recurses := true, apart := false }
def ScanKeepsSaid : Prop := scanKeepsRow.holds Try.pinned (OpenSpec.ofChange scanKeepsSpec)

/-- ITS FALSE NEIGHBOUR: 'it returns false'. Refute it at one input. -/
def scanKeepsWrong : ChangeSpec := { name := "scanKeeps", fn := fun _ => fun
  | [d1, d2] => { results := [.lit (.bool false)], args := [d1, d2] }
  | _ => none }
def ScanKeepsWrongFalsely : Prop := scanKeepsRow.holds Try.pinned (OpenSpec.ofChange scanKeepsWrong)

/-- 'blockhouselaw16.ScanRestarts': WHATEVER THE INPUT: true; the input reads as it did. -/
def scanRestartsSpec : ChangeSpec := { name := "scanRestarts", fn := fun _ => fun
  | [d1, d2] => { results := [.lit (.bool true)], args := [d1, d2] }
  | _ => none }
def scanRestartsRow : OpenClaim := { program := "ytiogpainajokkaa", sum := "92897869f7ef0ee5effa1a0e12a47d971a0460ddce5d76ee4e72a9d6f338717b", func := "blockhouse/blockhouselaw16.ScanRestarts", spec := "scanRestarts", unfollowed := true, recurses := true, apart := false }
def ScanRestartsSaid : Prop := scanRestartsRow.holds Try.pinned (OpenSpec.ofChange scanRestartsSpec)

/-- ITS FALSE NEIGHBOUR: 'it returns false'. Refute it at one input. -/
def scanRestartsWrong : ChangeSpec := { name := "scanRestarts", fn := fun _ => fun
  | [d1, d2] => { results := [.lit (.bool false)], args := [d1, d2] }
  | _ => none }
def ScanRestartsWrongFalsely : Prop := scanRestartsRow.holds Try.pinned (OpenSpec.ofChange scanRestartsWrong)

/-- 'blockhouselaw17.ImageBinds': WHATEVER THE INPUT: true; the input reads as it did. -/
def imageBindsSpec : ChangeSpec := { name := "imageBinds", fn := fun _ => fun
  | [d1, d2] => { results := [.lit (.bool true)], args := [d1, d2] }
  | _ => none }
def imageBindsRow : OpenClaim := { program := "ytiogpainajokkaa", sum := "92897869f7ef0ee5effa1a0e12a47d971a0460ddce5d76ee4e72a9d6f338717b", func := "blockhouse/blockhouselaw17.ImageBinds", spec := "imageBinds", unfollowed := true, recurses := true, apart := false }
def ImageBindsSaid : Prop := imageBindsRow.holds Try.pinned (OpenSpec.ofChange imageBindsSpec)

/-- ITS FALSE NEIGHBOUR: 'it returns false'. Refute it at one input. -/
def imageBindsWrong : ChangeSpec := { name := "imageBinds", fn := fun _ => fun
  | [d1, d2] => { results := [.lit (.bool false)], args := [d1, d2] }
  | _ => none }
def ImageBindsWrongFalsely : Prop := imageBindsRow.holds Try.pinned (OpenSpec.ofChange imageBindsWrong)

/-- 'blockhouselaw17.ImageTurned': WHATEVER THE INPUT: true; the input reads as it did. -/
def imageTurnedSpec : ChangeSpec := { name := "imageTurned", fn := fun _ => fun
  | [d1, d2, d3, d4] => { results := [.lit (.bool true)], args := [d1, d2, d3, d4] }
  | _ => none }
def imageTurnedRow : OpenClaim := { program := "ytiogpainajokkaa", sum := "92897869f7ef0ee5effa1a0e12a47d971a0460ddce5d76ee4e72a9d6f338717b", func := "blockhouse/blockhouselaw17.ImageTurned", spec := "imageTurned", unfollowed := true, recurses := true, apart := false }
def ImageTurnedSaid : Prop := imageTurnedRow.holds Try.pinned (OpenSpec.ofChange imageTurnedSpec)

/-- ITS FALSE NEIGHBOUR: 'it returns false'. Refute it at one input. -/
def imageTurnedWrong : ChangeSpec := { name := "imageTurned", fn := fun _ => fun
  | [d1, d2, d3, d4] => { results := [.lit (.bool false)], args := [d1, d2, d3, d4] }
  | _ => none }
def ImageTurnedWrongFalsely : Prop := imageTurnedRow.holds Try.pinned (OpenSpec.ofChange imageTurnedWrong)

/-- 'blockhouselaw17.ImageBack': WHATEVER THE INPUT: true; the input reads as it did. -/
def imageBackSpec : ChangeSpec := { name := "imageBack", fn := fun _ => fun
  | [d1, d2, d3, d4] => { results := [.lit (.bool true)], args := [d1, d2, d3, d4] }
  | _ => none }
def imageBackRow : OpenClaim := { program := "ytiogpainajokkaa", sum := "92897869f7ef0ee5effa1a0e12a47d971a0460ddce5d76ee4e72a9d6f338717b", func := "blockhouse/blockhouselaw17.ImageBack", spec := "imageBack", unfollowed := true, recurses := true, apart := false }
def ImageBackSaid : Prop := imageBackRow.holds Try.pinned (OpenSpec.ofChange imageBackSpec)

/-- ITS FALSE NEIGHBOUR: 'it returns false'. Refute it at one input. -/
def imageBackWrong : ChangeSpec := { name := "imageBack", fn := fun _ => fun
  | [d1, d2, d3, d4] => { results := [.lit (.bool false)], args := [d1, d2, d3, d4] }
  | _ => none }
def ImageBackWrongFalsely : Prop := imageBackRow.holds Try.pinned (OpenSpec.ofChange imageBackWrong)

/- THE SECOND FORM. 'bulk': how many values and letters a reading holds, each counted each time it is reached (what is shared counts as often as it is met; a slice's spare places count too). A statement '..UptoSaid' is the law's where the arguments, and the package variables that the reading takes, are together of bulk at most 1048576: NARROWER than '..Said'. Prove '..Said' where nothing that the law and all that it calls make is longer than what came in: it says more and counts as full. Else prove '..UptoSaid'. A law counts once. -/
mutual
def uptoBulk {H : Type} : DataW H → Nat
  | .lit (.string bytes) => bytes.length + 1
  | .lit _ => 1
  | .nil => 1
  | .ptr d => uptoBulk d + 1
  | .slice elems spare => uptoBulkAll elems + uptoBulkAll spare + 1
  | .agg parts => uptoBulkAll parts + 1
  | .iface _ d => uptoBulk d + 1
  | .map entries => uptoBulkEntries entries + 1
  | .held _ => 1
def uptoBulkAll {H : Type} : List (DataW H) → Nat
  | [] => 0
  | d :: r => uptoBulk d + uptoBulkAll r
def uptoBulkEntries {H : Type} : List (Lit × DataW H) → Nat
  | [] => 0
  | x :: r => uptoBulkEntry x + uptoBulkEntries r
def uptoBulkEntry {H : Type} : Lit × DataW H → Nat
  | (.string bytes, d) => bytes.length + uptoBulk d + 1
  | (_, d) => uptoBulk d + 1
 end
def uptoSmall : (H : Type) → List (DataW H) → Bool := fun _ ds => decide (uptoBulkAll ds ≤ 1048576)
def OpenSpec.upto (s : _root_.Go.ChangeSpec) : _root_.Go.OpenSpec := { _root_.Go.OpenSpec.ofChange s with cond := some uptoSmall }

/-- 'blockhouselaw16.ScanAlone', WHERE WHAT IT READS IS OF BULK AT MOST 1048576: true; the input reads as it did. -/
def scanAloneUptoRow : OpenClaim := { program := "ytiogpainajokkaa", sum := "92897869f7ef0ee5effa1a0e12a47d971a0460ddce5d76ee4e72a9d6f338717b", func := "blockhouse/blockhouselaw16.ScanAlone", spec := "scanAlone", unfollowed := true, recurses := true, apart := false, narrowed := true }
def ScanAloneUptoSaid : Prop := scanAloneUptoRow.holds Try.pinned (OpenSpec.upto scanAloneSpec)

/-- 'blockhouselaw16.ScanSigns', WHERE WHAT IT READS IS OF BULK AT MOST 1048576: true; the input reads as it did. -/
def scanSignsUptoRow : OpenClaim := { program := "ytiogpainajokkaa", sum := "92897869f7ef0ee5effa1a0e12a47d971a0460ddce5d76ee4e72a9d6f338717b", func := "blockhouse/blockhouselaw16.ScanSigns", spec := "scanSigns", unfollowed := true, recurses := true, apart := false, narrowed := true }
def ScanSignsUptoSaid : Prop := scanSignsUptoRow.holds Try.pinned (OpenSpec.upto scanSignsSpec)

/-- 'blockhouselaw16.ScanChoice', WHERE WHAT IT READS IS OF BULK AT MOST 1048576: true; the input reads as it did. -/
def scanChoiceUptoRow : OpenClaim := { program := "ytiogpainajokkaa", sum := "92897869f7ef0ee5effa1a0e12a47d971a0460ddce5d76ee4e72a9d6f338717b", func := "blockhouse/blockhouselaw16.ScanChoice", spec := "scanChoice", unfollowed := true, recurses := true, apart := false, narrowed := true }
def ScanChoiceUptoSaid : Prop := scanChoiceUptoRow.holds Try.pinned (OpenSpec.upto scanChoiceSpec)

/-- 'blockhouselaw16.ScanBlocks', WHERE WHAT IT READS IS OF BULK AT MOST 1048576: true; the input reads as it did. -/
def scanBlocksUptoRow : OpenClaim := { program := "ytiogpainajokkaa", sum := "92897869f7ef0ee5effa1a0e12a47d971a0460ddce5d76ee4e72a9d6f338717b", func := "blockhouse/blockhouselaw16.ScanBlocks", spec := "scanBlocks", unfollowed := true, recurses := true, apart := false, narrowed := true }
def ScanBlocksUptoSaid : Prop := scanBlocksUptoRow.holds Try.pinned (OpenSpec.upto scanBlocksSpec)

/-- 'blockhouselaw16.ScanKeeps', WHERE WHAT IT READS IS OF BULK AT MOST 1048576: true; the input reads as it did. -/
def scanKeepsUptoRow : OpenClaim := { program := "ytiogpainajokkaa", sum := "92897869f7ef0ee5effa1a0e12a47d971a0460ddce5d76ee4e72a9d6f338717b", func := "blockhouse/blockhouselaw16.ScanKeeps", spec := "scanKeeps", unfollowed := true, recurses := true, apart := false, narrowed := true }
def ScanKeepsUptoSaid : Prop := scanKeepsUptoRow.holds Try.pinned (OpenSpec.upto scanKeepsSpec)

/-- 'blockhouselaw16.ScanRestarts', WHERE WHAT IT READS IS OF BULK AT MOST 1048576: true; the input reads as it did. -/
def scanRestartsUptoRow : OpenClaim := { program := "ytiogpainajokkaa", sum := "92897869f7ef0ee5effa1a0e12a47d971a0460ddce5d76ee4e72a9d6f338717b", func := "blockhouse/blockhouselaw16.ScanRestarts", spec := "scanRestarts", unfollowed := true, recurses := true, apart := false, narrowed := true }
def ScanRestartsUptoSaid : Prop := scanRestartsUptoRow.holds Try.pinned (OpenSpec.upto scanRestartsSpec)

/-- 'blockhouselaw17.ImageBinds', WHERE WHAT IT READS IS OF BULK AT MOST 1048576: true; the input reads as it did. -/
def imageBindsUptoRow : OpenClaim := { program := "ytiogpainajokkaa", sum := "92897869f7ef0ee5effa1a0e12a47d971a0460ddce5d76ee4e72a9d6f338717b", func := "blockhouse/blockhouselaw17.ImageBinds", spec := "imageBinds", unfollowed := true, recurses := true, apart := false, narrowed := true }
def ImageBindsUptoSaid : Prop := imageBindsUptoRow.holds Try.pinned (OpenSpec.upto imageBindsSpec)

/-- 'blockhouselaw17.ImageTurned', WHERE WHAT IT READS IS OF BULK AT MOST 1048576: true; the input reads as it did. -/
def imageTurnedUptoRow : OpenClaim := { program := "ytiogpainajokkaa", sum := "92897869f7ef0ee5effa1a0e12a47d971a0460ddce5d76ee4e72a9d6f338717b", func := "blockhouse/blockhouselaw17.ImageTurned", spec := "imageTurned", unfollowed := true, recurses := true, apart := false, narrowed := true }
def ImageTurnedUptoSaid : Prop := imageTurnedUptoRow.holds Try.pinned (OpenSpec.upto imageTurnedSpec)

/-- 'blockhouselaw17.ImageBack', WHERE WHAT IT READS IS OF BULK AT MOST 1048576: true; the input reads as it did. -/
def imageBackUptoRow : OpenClaim := { program := "ytiogpainajokkaa", sum := "92897869f7ef0ee5effa1a0e12a47d971a0460ddce5d76ee4e72a9d6f338717b", func := "blockhouse/blockhouselaw17.ImageBack", spec := "imageBack", unfollowed := true, recurses := true, apart := false, narrowed := true }
def ImageBackUptoSaid : Prop := imageBackUptoRow.holds Try.pinned (OpenSpec.upto imageBackSpec)

end Rows
end Go.Proofs.Ytiogpainajokkaa
