/-
  No cell of these rows narrows 'for every input' (looked for: loops, veiled, ifaces, maps, wideKeys, modest, calm, conditions, laid).
  DERIVED. THE GIVEN ROWS OF THIS SEAT. 5 by the template 'for every input the law returns true; each argument reads behind the call as it read before'; 0 by the template 'total and deterministic' (their statements: YteakblblpiihpaaTotals.lean).
  GIVEN WITH THE SEED: the statements are not yours to turn. If you find one false, say at which input.
  Laid BY PROGRAM, IN A SANDBOX (cutbox-rows.mjs): the forced cells as the released guide's own fill.sh prints them over the translation fec8b266c4254b1b… (all of the seat's roots in one cut). By AI agents, Wed Nov 11 2026. No macro, syntax, notation, axiom, sorry.
-/
import Derived.Test.YteakblblpiihpaaChecked
import GoSem.Claim
import GoSem.ClaimJoined
import GoSem.ClaimMapViews
import Derived.JoinedTies
import Derived.KernelRfl
namespace Go.Proofs.Yteakblblpiihpaa
/- THE CELL 'sum', in the pinned program and in every row, IS THE sha256 OF THE DUMP (.gsa) THAT YteakblblpiihpaaProg.lean LOADS. Nothing in Lean hashes anything: it is a label: what it is worth is what the hold of that sum in a sandbox is worth. -/
noncomputable def Try.pinned : Pinned := { name := "yteakblblpiihpaa", sum := "fec8b266c4254b1b1e9dd4ea179cd0f971ce159b6c6424d6f61effa13f6fe46e", checked := Try.checked }
namespace Rows
def none {H : Type} : Left H := { results := [], args := [] }

/-- 'mewslaw24.ZsetRises': WHATEVER THE INPUT: true; the input reads as it did. -/
def zsetRisesSpec : ChangeSpec := { name := "zsetRises", fn := fun _ => fun
  | [d] => { results := [.lit (.bool true)], args := [d] }
  | _ => none }
def zsetRisesRow : OpenClaim := { program := "yteakblblpiihpaa", sum := "fec8b266c4254b1b1e9dd4ea179cd0f971ce159b6c6424d6f61effa13f6fe46e", func := "mews/mewslaw24.ZsetRises", spec := "zsetRises", unfollowed := true, recurses := true, apart := false }
def ZsetRisesSaid : Prop := zsetRisesRow.holds Try.pinned (OpenSpec.ofChange zsetRisesSpec)

/-- ITS FALSE NEIGHBOUR: 'it returns false'. Refute it at one input. -/
def zsetRisesWrong : ChangeSpec := { name := "zsetRises", fn := fun _ => fun
  | [d] => { results := [.lit (.bool false)], args := [d] }
  | _ => none }
def ZsetRisesWrongFalsely : Prop := zsetRisesRow.holds Try.pinned (OpenSpec.ofChange zsetRisesWrong)

/-- 'mewslaw24.ZsetAsks': WHATEVER THE INPUT: true; the input reads as it did. -/
def zsetAsksSpec : ChangeSpec := { name := "zsetAsks", fn := fun _ => fun
  | [d1, d2, d3] => { results := [.lit (.bool true)], args := [d1, d2, d3] }
  | _ => none }
def zsetAsksRow : OpenClaim := { program := "yteakblblpiihpaa", sum := "fec8b266c4254b1b1e9dd4ea179cd0f971ce159b6c6424d6f61effa13f6fe46e", func := "mews/mewslaw24.ZsetAsks", spec := "zsetAsks", unfollowed := true, recurses := true, apart := false }
def ZsetAsksSaid : Prop := zsetAsksRow.holds Try.pinned (OpenSpec.ofChange zsetAsksSpec)

/-- ITS FALSE NEIGHBOUR: 'it returns false'. Refute it at one input. -/
def zsetAsksWrong : ChangeSpec := { name := "zsetAsks", fn := fun _ => fun
  | [d1, d2, d3] => { results := [.lit (.bool false)], args := [d1, d2, d3] }
  | _ => none }
def ZsetAsksWrongFalsely : Prop := zsetAsksRow.holds Try.pinned (OpenSpec.ofChange zsetAsksWrong)

/-- 'mewslaw24.ZsetPlays': WHATEVER THE INPUT: true; the input reads as it did. -/
def zsetPlaysSpec : ChangeSpec := { name := "zsetPlays", fn := fun _ => fun
  | [d1, d2] => { results := [.lit (.bool true)], args := [d1, d2] }
  | _ => none }
def zsetPlaysRow : OpenClaim := { program := "yteakblblpiihpaa", sum := "fec8b266c4254b1b1e9dd4ea179cd0f971ce159b6c6424d6f61effa13f6fe46e", func := "mews/mewslaw24.ZsetPlays", spec := "zsetPlays", unfollowed := true, recurses := true, apart := false }
def ZsetPlaysSaid : Prop := zsetPlaysRow.holds Try.pinned (OpenSpec.ofChange zsetPlaysSpec)

/-- ITS FALSE NEIGHBOUR: 'it returns false'. Refute it at one input. -/
def zsetPlaysWrong : ChangeSpec := { name := "zsetPlays", fn := fun _ => fun
  | [d1, d2] => { results := [.lit (.bool false)], args := [d1, d2] }
  | _ => none }
def ZsetPlaysWrongFalsely : Prop := zsetPlaysRow.holds Try.pinned (OpenSpec.ofChange zsetPlaysWrong)

/-- 'mewslaw24.ZsetScans': WHATEVER THE INPUT: true; the input reads as it did. -/
def zsetScansSpec : ChangeSpec := { name := "zsetScans", fn := fun _ => fun
  | [d1, d2, d3] => { results := [.lit (.bool true)], args := [d1, d2, d3] }
  | _ => none }
def zsetScansRow : OpenClaim := { program := "yteakblblpiihpaa", sum := "fec8b266c4254b1b1e9dd4ea179cd0f971ce159b6c6424d6f61effa13f6fe46e", func := "mews/mewslaw24.ZsetScans", spec := "zsetScans", unfollowed := true, recurses := true, apart := false }
def ZsetScansSaid : Prop := zsetScansRow.holds Try.pinned (OpenSpec.ofChange zsetScansSpec)

/-- ITS FALSE NEIGHBOUR: 'it returns false'. Refute it at one input. -/
def zsetScansWrong : ChangeSpec := { name := "zsetScans", fn := fun _ => fun
  | [d1, d2, d3] => { results := [.lit (.bool false)], args := [d1, d2, d3] }
  | _ => none }
def ZsetScansWrongFalsely : Prop := zsetScansRow.holds Try.pinned (OpenSpec.ofChange zsetScansWrong)

/-- 'mewslaw24.ZsetJoins': WHATEVER THE INPUT: true; the input reads as it did. -/
def zsetJoinsSpec : ChangeSpec := { name := "zsetJoins", fn := fun _ => fun
  | [d1, d2, d3] => { results := [.lit (.bool true)], args := [d1, d2, d3] }
  | _ => none }
def zsetJoinsRow : OpenClaim := { program := "yteakblblpiihpaa", sum := "fec8b266c4254b1b1e9dd4ea179cd0f971ce159b6c6424d6f61effa13f6fe46e", func := "mews/mewslaw24.ZsetJoins", spec := "zsetJoins", inPlace := ["internal/bytealg.abigen_runtime_cmpstring"], unfollowed := true, recurses := true, apart := false }
def ZsetJoinsSaid : Prop := zsetJoinsRow.holds Try.pinned (OpenSpec.ofChange zsetJoinsSpec)

/-- ITS FALSE NEIGHBOUR: 'it returns false'. Refute it at one input. -/
def zsetJoinsWrong : ChangeSpec := { name := "zsetJoins", fn := fun _ => fun
  | [d1, d2, d3] => { results := [.lit (.bool false)], args := [d1, d2, d3] }
  | _ => none }
def ZsetJoinsWrongFalsely : Prop := zsetJoinsRow.holds Try.pinned (OpenSpec.ofChange zsetJoinsWrong)

/- THE SECOND FORM. 'bulk': how many values and letters a reading holds, each counted each time it is reached (what is shared counts as often as it is met; a slice's spare places count too). A statement '..UptoSaid' is the law's where the arguments, and the package variables that the reading takes, are together of bulk at most 1048576: NARROWER than '..Said'. Prove '..Said' where nothing that the law and all that it calls make is longer than what came in: it says more and counts as full. Else prove '..UptoSaid'. A law counts once. -/
mutual
def uptoBulk {H : Type} : DataW H → Nat
  | .lit (.string bytes) => bytes.length + 1
  | .lit _ => 1
  | .nil => 1
  | .ptr d => uptoBulk d + 1
  | .slice elems spare => uptoBulkAll elems + uptoBulkAll spare + 1
  | .agg parts => uptoBulkAll parts + 1
  | .iface _ d => uptoBulk d + 1
  | .map entries => uptoBulkEntries entries + 1
  | .held _ => 1
def uptoBulkAll {H : Type} : List (DataW H) → Nat
  | [] => 0
  | d :: r => uptoBulk d + uptoBulkAll r
def uptoBulkEntries {H : Type} : List (Lit × DataW H) → Nat
  | [] => 0
  | x :: r => uptoBulkEntry x + uptoBulkEntries r
def uptoBulkEntry {H : Type} : Lit × DataW H → Nat
  | (.string bytes, d) => bytes.length + uptoBulk d + 1
  | (_, d) => uptoBulk d + 1
 end
def uptoSmall : (H : Type) → List (DataW H) → Bool := fun _ ds => decide (uptoBulkAll ds ≤ 1048576)
def OpenSpec.upto (s : _root_.Go.ChangeSpec) : _root_.Go.OpenSpec := { _root_.Go.OpenSpec.ofChange s with cond := some uptoSmall }

/-- 'mewslaw24.ZsetRises', WHERE WHAT IT READS IS OF BULK AT MOST 1048576: true; the input reads as it did. -/
def zsetRisesUptoRow : OpenClaim := { program := "yteakblblpiihpaa", sum := "fec8b266c4254b1b1e9dd4ea179cd0f971ce159b6c6424d6f61effa13f6fe46e", func := "mews/mewslaw24.ZsetRises", spec := "zsetRises", unfollowed := true, recurses := true, apart := false, narrowed := true }
def ZsetRisesUptoSaid : Prop := zsetRisesUptoRow.holds Try.pinned (OpenSpec.upto zsetRisesSpec)

/-- 'mewslaw24.ZsetAsks', WHERE WHAT IT READS IS OF BULK AT MOST 1048576: true; the input reads as it did. -/
def zsetAsksUptoRow : OpenClaim := { program := "yteakblblpiihpaa", sum := "fec8b266c4254b1b1e9dd4ea179cd0f971ce159b6c6424d6f61effa13f6fe46e", func := "mews/mewslaw24.ZsetAsks", spec := "zsetAsks", unfollowed := true, recurses := true, apart := false, narrowed := true }
def ZsetAsksUptoSaid : Prop := zsetAsksUptoRow.holds Try.pinned (OpenSpec.upto zsetAsksSpec)

/-- 'mewslaw24.ZsetPlays', WHERE WHAT IT READS IS OF BULK AT MOST 1048576: true; the input reads as it did. -/
def zsetPlaysUptoRow : OpenClaim := { program := "yteakblblpiihpaa", sum := "fec8b266c4254b1b1e9dd4ea179cd0f971ce159b6c6424d6f61effa13f6fe46e", func := "mews/mewslaw24.ZsetPlays", spec := "zsetPlays", unfollowed := true, recurses := true, apart := false, narrowed := true }
def ZsetPlaysUptoSaid : Prop := zsetPlaysUptoRow.holds Try.pinned (OpenSpec.upto zsetPlaysSpec)

/-- 'mewslaw24.ZsetScans', WHERE WHAT IT READS IS OF BULK AT MOST 1048576: true; the input reads as it did. -/
def zsetScansUptoRow : OpenClaim := { program := "yteakblblpiihpaa", sum := "fec8b266c4254b1b1e9dd4ea179cd0f971ce159b6c6424d6f61effa13f6fe46e", func := "mews/mewslaw24.ZsetScans", spec := "zsetScans", unfollowed := true, recurses := true, apart := false, narrowed := true }
def ZsetScansUptoSaid : Prop := zsetScansUptoRow.holds Try.pinned (OpenSpec.upto zsetScansSpec)

/-- 'mewslaw24.ZsetJoins', WHERE WHAT IT READS IS OF BULK AT MOST 1048576: true; the input reads as it did. -/
def zsetJoinsUptoRow : OpenClaim := { program := "yteakblblpiihpaa", sum := "fec8b266c4254b1b1e9dd4ea179cd0f971ce159b6c6424d6f61effa13f6fe46e", func := "mews/mewslaw24.ZsetJoins", spec := "zsetJoins", inPlace := ["internal/bytealg.abigen_runtime_cmpstring"], unfollowed := true, recurses := true, apart := false, narrowed := true }
def ZsetJoinsUptoSaid : Prop := zsetJoinsUptoRow.holds Try.pinned (OpenSpec.upto zsetJoinsSpec)

end Rows
end Go.Proofs.Yteakblblpiihpaa
