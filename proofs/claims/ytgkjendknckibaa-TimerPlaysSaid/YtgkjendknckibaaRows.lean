/-
  No cell of these rows narrows 'for every input' (looked for: loops, veiled, ifaces, maps, wideKeys, modest, calm, conditions, laid).
  DERIVED. THE GIVEN ROWS OF THIS SEAT. 8 by the template 'for every input the law returns true; each argument reads behind the call as it read before'; 0 by the template 'total and deterministic' (their statements: YtgkjendknckibaaTotals.lean).
  GIVEN WITH THE SEED: the statements are not yours to turn. If you find one false, say at which input.
  Laid BY PROGRAM, IN A SANDBOX (cutbox-rows.mjs): the forced cells as the released guide's own fill.sh prints them over the translation c1afc7268e9e634e… (all of the seat's roots in one cut). By AI agents, Wed Nov 11 2026. No macro, syntax, notation, axiom, sorry.
-/
import Derived.Test.YtgkjendknckibaaChecked
import GoSem.Claim
import GoSem.ClaimJoined
import GoSem.ClaimMapViews
import Derived.JoinedTies
import Derived.KernelRfl
namespace Go.Proofs.Ytgkjendknckibaa
/- THE CELL 'sum', in the pinned program and in every row, IS THE sha256 OF THE DUMP (.gsa) THAT YtgkjendknckibaaProg.lean LOADS. Nothing in Lean hashes anything: it is a label: what it is worth is what the hold of that sum in a sandbox is worth. -/
noncomputable def Try.pinned : Pinned := { name := "ytgkjendknckibaa", sum := "c1afc7268e9e634e64015201f6bd095461ada02c0a5c573eae8c5cc856ceb2bb", checked := Try.checked }
namespace Rows
def none {H : Type} : Left H := { results := [], args := [] }

/-- 'mewslaw11.TimerDue': WHATEVER THE INPUT: true; the input reads as it did. -/
def timerDueSpec : ChangeSpec := { name := "timerDue", fn := fun _ => fun
  | [d1, d2] => { results := [.lit (.bool true)], args := [d1, d2] }
  | _ => none }
def timerDueRow : OpenClaim := { program := "ytgkjendknckibaa", sum := "c1afc7268e9e634e64015201f6bd095461ada02c0a5c573eae8c5cc856ceb2bb", func := "mews/mewslaw11.TimerDue", spec := "timerDue", inPlace := ["internal/bytealg.abigen_runtime_cmpstring"], unfollowed := true, recurses := true, apart := false }
def TimerDueSaid : Prop := timerDueRow.holds Try.pinned (OpenSpec.ofChange timerDueSpec)

/-- ITS FALSE NEIGHBOUR: 'it returns false'. Refute it at one input. -/
def timerDueWrong : ChangeSpec := { name := "timerDue", fn := fun _ => fun
  | [d1, d2] => { results := [.lit (.bool false)], args := [d1, d2] }
  | _ => none }
def TimerDueWrongFalsely : Prop := timerDueRow.holds Try.pinned (OpenSpec.ofChange timerDueWrong)

/-- 'mewslaw11.TimerLast': WHATEVER THE INPUT: true; the input reads as it did. -/
def timerLastSpec : ChangeSpec := { name := "timerLast", fn := fun _ => fun
  | [d] => { results := [.lit (.bool true)], args := [d] }
  | _ => none }
def timerLastRow : OpenClaim := { program := "ytgkjendknckibaa", sum := "c1afc7268e9e634e64015201f6bd095461ada02c0a5c573eae8c5cc856ceb2bb", func := "mews/mewslaw11.TimerLast", spec := "timerLast", inPlace := ["internal/bytealg.abigen_runtime_cmpstring"], unfollowed := true, recurses := true, apart := false }
def TimerLastSaid : Prop := timerLastRow.holds Try.pinned (OpenSpec.ofChange timerLastSpec)

/-- ITS FALSE NEIGHBOUR: 'it returns false'. Refute it at one input. -/
def timerLastWrong : ChangeSpec := { name := "timerLast", fn := fun _ => fun
  | [d] => { results := [.lit (.bool false)], args := [d] }
  | _ => none }
def TimerLastWrongFalsely : Prop := timerLastRow.holds Try.pinned (OpenSpec.ofChange timerLastWrong)

/-- 'mewslaw11.TimerPlays': WHATEVER THE INPUT: true; the input reads as it did. -/
def timerPlaysSpec : ChangeSpec := { name := "timerPlays", fn := fun _ => fun
  | [d] => { results := [.lit (.bool true)], args := [d] }
  | _ => none }
def timerPlaysRow : OpenClaim := { program := "ytgkjendknckibaa", sum := "c1afc7268e9e634e64015201f6bd095461ada02c0a5c573eae8c5cc856ceb2bb", func := "mews/mewslaw11.TimerPlays", spec := "timerPlays", inPlace := ["internal/bytealg.abigen_runtime_cmpstring"], unfollowed := true, recurses := true, apart := false }
def TimerPlaysSaid : Prop := timerPlaysRow.holds Try.pinned (OpenSpec.ofChange timerPlaysSpec)

/-- ITS FALSE NEIGHBOUR: 'it returns false'. Refute it at one input. -/
def timerPlaysWrong : ChangeSpec := { name := "timerPlays", fn := fun _ => fun
  | [d] => { results := [.lit (.bool false)], args := [d] }
  | _ => none }
def TimerPlaysWrongFalsely : Prop := timerPlaysRow.holds Try.pinned (OpenSpec.ofChange timerPlaysWrong)

/-- 'mewslaw11.TimerNobody': WHATEVER THE INPUT: true; the input reads as it did. -/
def timerNobodySpec : ChangeSpec := { name := "timerNobody", fn := fun _ => fun
  | [d] => { results := [.lit (.bool true)], args := [d] }
  | _ => none }
def timerNobodyRow : OpenClaim := { program := "ytgkjendknckibaa", sum := "c1afc7268e9e634e64015201f6bd095461ada02c0a5c573eae8c5cc856ceb2bb", func := "mews/mewslaw11.TimerNobody", spec := "timerNobody", inPlace := ["internal/bytealg.abigen_runtime_cmpstring"], unfollowed := true, recurses := true, apart := false }
def TimerNobodySaid : Prop := timerNobodyRow.holds Try.pinned (OpenSpec.ofChange timerNobodySpec)

/-- ITS FALSE NEIGHBOUR: 'it returns false'. Refute it at one input. -/
def timerNobodyWrong : ChangeSpec := { name := "timerNobody", fn := fun _ => fun
  | [d] => { results := [.lit (.bool false)], args := [d] }
  | _ => none }
def TimerNobodyWrongFalsely : Prop := timerNobodyRow.holds Try.pinned (OpenSpec.ofChange timerNobodyWrong)

/-- 'mewslaw13.FreqCounts': WHATEVER THE INPUT: true; the input reads as it did. -/
def freqCountsSpec : ChangeSpec := { name := "freqCounts", fn := fun _ => fun
  | [d1, d2] => { results := [.lit (.bool true)], args := [d1, d2] }
  | _ => none }
def freqCountsRow : OpenClaim := { program := "ytgkjendknckibaa", sum := "c1afc7268e9e634e64015201f6bd095461ada02c0a5c573eae8c5cc856ceb2bb", func := "mews/mewslaw13.FreqCounts", spec := "freqCounts", unfollowed := true, recurses := true, apart := false }
def FreqCountsSaid : Prop := freqCountsRow.holds Try.pinned (OpenSpec.ofChange freqCountsSpec)

/-- ITS FALSE NEIGHBOUR: 'it returns false'. Refute it at one input. -/
def freqCountsWrong : ChangeSpec := { name := "freqCounts", fn := fun _ => fun
  | [d1, d2] => { results := [.lit (.bool false)], args := [d1, d2] }
  | _ => none }
def FreqCountsWrongFalsely : Prop := freqCountsRow.holds Try.pinned (OpenSpec.ofChange freqCountsWrong)

/-- 'mewslaw13.FreqPlays': WHATEVER THE INPUT: true; the input reads as it did. -/
def freqPlaysSpec : ChangeSpec := { name := "freqPlays", fn := fun _ => fun
  | [d1, d2] => { results := [.lit (.bool true)], args := [d1, d2] }
  | _ => none }
def freqPlaysRow : OpenClaim := { program := "ytgkjendknckibaa", sum := "c1afc7268e9e634e64015201f6bd095461ada02c0a5c573eae8c5cc856ceb2bb", func := "mews/mewslaw13.FreqPlays", spec := "freqPlays", unfollowed := true, recurses := true, apart := false }
def FreqPlaysSaid : Prop := freqPlaysRow.holds Try.pinned (OpenSpec.ofChange freqPlaysSpec)

/-- ITS FALSE NEIGHBOUR: 'it returns false'. Refute it at one input. -/
def freqPlaysWrong : ChangeSpec := { name := "freqPlays", fn := fun _ => fun
  | [d1, d2] => { results := [.lit (.bool false)], args := [d1, d2] }
  | _ => none }
def FreqPlaysWrongFalsely : Prop := freqPlaysRow.holds Try.pinned (OpenSpec.ofChange freqPlaysWrong)

/-- 'mewslaw13.FreqLeast': WHATEVER THE INPUT: true; the input reads as it did. -/
def freqLeastSpec : ChangeSpec := { name := "freqLeast", fn := fun _ => fun
  | [d] => { results := [.lit (.bool true)], args := [d] }
  | _ => none }
def freqLeastRow : OpenClaim := { program := "ytgkjendknckibaa", sum := "c1afc7268e9e634e64015201f6bd095461ada02c0a5c573eae8c5cc856ceb2bb", func := "mews/mewslaw13.FreqLeast", spec := "freqLeast", unfollowed := true, recurses := true, apart := false }
def FreqLeastSaid : Prop := freqLeastRow.holds Try.pinned (OpenSpec.ofChange freqLeastSpec)

/-- ITS FALSE NEIGHBOUR: 'it returns false'. Refute it at one input. -/
def freqLeastWrong : ChangeSpec := { name := "freqLeast", fn := fun _ => fun
  | [d] => { results := [.lit (.bool false)], args := [d] }
  | _ => none }
def FreqLeastWrongFalsely : Prop := freqLeastRow.holds Try.pinned (OpenSpec.ofChange freqLeastWrong)

/-- 'mewslaw13.FreqNobody': WHATEVER THE INPUT: true; the input reads as it did. -/
def freqNobodySpec : ChangeSpec := { name := "freqNobody", fn := fun _ => fun
  | [d] => { results := [.lit (.bool true)], args := [d] }
  | _ => none }
def freqNobodyRow : OpenClaim := { program := "ytgkjendknckibaa", sum := "c1afc7268e9e634e64015201f6bd095461ada02c0a5c573eae8c5cc856ceb2bb", func := "mews/mewslaw13.FreqNobody", spec := "freqNobody", unfollowed := true, recurses := true, apart := false }
def FreqNobodySaid : Prop := freqNobodyRow.holds Try.pinned (OpenSpec.ofChange freqNobodySpec)

/-- ITS FALSE NEIGHBOUR: 'it returns false'. Refute it at one input. -/
def freqNobodyWrong : ChangeSpec := { name := "freqNobody", fn := fun _ => fun
  | [d] => { results := [.lit (.bool false)], args := [d] }
  | _ => none }
def FreqNobodyWrongFalsely : Prop := freqNobodyRow.holds Try.pinned (OpenSpec.ofChange freqNobodyWrong)

/- THE SECOND FORM. 'bulk': how many values and letters a reading holds, each counted each time it is reached (what is shared counts as often as it is met; a slice's spare places count too). A statement '..UptoSaid' is the law's where the arguments, and the package variables that the reading takes, are together of bulk at most 1048576: NARROWER than '..Said'. Prove '..Said' where nothing that the law and all that it calls make is longer than what came in: it says more and counts as full. Else prove '..UptoSaid'. A law counts once. -/
mutual
def uptoBulk {H : Type} : DataW H → Nat
  | .lit (.string bytes) => bytes.length + 1
  | .lit _ => 1
  | .nil => 1
  | .ptr d => uptoBulk d + 1
  | .slice elems spare => uptoBulkAll elems + uptoBulkAll spare + 1
  | .agg parts => uptoBulkAll parts + 1
  | .iface _ d => uptoBulk d + 1
  | .map entries => uptoBulkEntries entries + 1
  | .held _ => 1
def uptoBulkAll {H : Type} : List (DataW H) → Nat
  | [] => 0
  | d :: r => uptoBulk d + uptoBulkAll r
def uptoBulkEntries {H : Type} : List (Lit × DataW H) → Nat
  | [] => 0
  | x :: r => uptoBulkEntry x + uptoBulkEntries r
def uptoBulkEntry {H : Type} : Lit × DataW H → Nat
  | (.string bytes, d) => bytes.length + uptoBulk d + 1
  | (_, d) => uptoBulk d + 1
 end
def uptoSmall : (H : Type) → List (DataW H) → Bool := fun _ ds => decide (uptoBulkAll ds ≤ 1048576)
def OpenSpec.upto (s : _root_.Go.ChangeSpec) : _root_.Go.OpenSpec := { _root_.Go.OpenSpec.ofChange s with cond := some uptoSmall }

/-- 'mewslaw11.TimerDue', WHERE WHAT IT READS IS OF BULK AT MOST 1048576: true; the input reads as it did. -/
def timerDueUptoRow : OpenClaim := { program := "ytgkjendknckibaa", sum := "c1afc7268e9e634e64015201f6bd095461ada02c0a5c573eae8c5cc856ceb2bb", func := "mews/mewslaw11.TimerDue", spec := "timerDue", inPlace := ["internal/bytealg.abigen_runtime_cmpstring"], unfollowed := true, recurses := true, apart := false, narrowed := true }
def TimerDueUptoSaid : Prop := timerDueUptoRow.holds Try.pinned (OpenSpec.upto timerDueSpec)

/-- 'mewslaw11.TimerLast', WHERE WHAT IT READS IS OF BULK AT MOST 1048576: true; the input reads as it did. -/
def timerLastUptoRow : OpenClaim := { program := "ytgkjendknckibaa", sum := "c1afc7268e9e634e64015201f6bd095461ada02c0a5c573eae8c5cc856ceb2bb", func := "mews/mewslaw11.TimerLast", spec := "timerLast", inPlace := ["internal/bytealg.abigen_runtime_cmpstring"], unfollowed := true, recurses := true, apart := false, narrowed := true }
def TimerLastUptoSaid : Prop := timerLastUptoRow.holds Try.pinned (OpenSpec.upto timerLastSpec)

/-- 'mewslaw11.TimerPlays', WHERE WHAT IT READS IS OF BULK AT MOST 1048576: true; the input reads as it did. -/
def timerPlaysUptoRow : OpenClaim := { program := "ytgkjendknckibaa", sum := "c1afc7268e9e634e64015201f6bd095461ada02c0a5c573eae8c5cc856ceb2bb", func := "mews/mewslaw11.TimerPlays", spec := "timerPlays", inPlace := ["internal/bytealg.abigen_runtime_cmpstring"], unfollowed := true, recurses := true, apart := false, narrowed := true }
def TimerPlaysUptoSaid : Prop := timerPlaysUptoRow.holds Try.pinned (OpenSpec.upto timerPlaysSpec)

/-- 'mewslaw11.TimerNobody', WHERE WHAT IT READS IS OF BULK AT MOST 1048576: true; the input reads as it did. -/
def timerNobodyUptoRow : OpenClaim := { program := "ytgkjendknckibaa", sum := "c1afc7268e9e634e64015201f6bd095461ada02c0a5c573eae8c5cc856ceb2bb", func := "mews/mewslaw11.TimerNobody", spec := "timerNobody", inPlace := ["internal/bytealg.abigen_runtime_cmpstring"], unfollowed := true, recurses := true, apart := false, narrowed := true }
def TimerNobodyUptoSaid : Prop := timerNobodyUptoRow.holds Try.pinned (OpenSpec.upto timerNobodySpec)

/-- 'mewslaw13.FreqCounts', WHERE WHAT IT READS IS OF BULK AT MOST 1048576: true; the input reads as it did. -/
def freqCountsUptoRow : OpenClaim := { program := "ytgkjendknckibaa", sum := "c1afc7268e9e634e64015201f6bd095461ada02c0a5c573eae8c5cc856ceb2bb", func := "mews/mewslaw13.FreqCounts", spec := "freqCounts", unfollowed := true, recurses := true, apart := false, narrowed := true }
def FreqCountsUptoSaid : Prop := freqCountsUptoRow.holds Try.pinned (OpenSpec.upto freqCountsSpec)

/-- 'mewslaw13.FreqPlays', WHERE WHAT IT READS IS OF BULK AT MOST 1048576: true; the input reads as it did. -/
def freqPlaysUptoRow : OpenClaim := { program := "ytgkjendknckibaa", sum := "c1afc7268e9e634e64015201f6bd095461ada02c0a5c573eae8c5cc856ceb2bb", func := "mews/mewslaw13.FreqPlays", spec := "freqPlays", unfollowed := true, recurses := true, apart := false, narrowed := true }
def FreqPlaysUptoSaid : Prop := freqPlaysUptoRow.holds Try.pinned (OpenSpec.upto freqPlaysSpec)

/-- 'mewslaw13.FreqLeast', WHERE WHAT IT READS IS OF BULK AT MOST 1048576: true; the input reads as it did. -/
def freqLeastUptoRow : OpenClaim := { program := "ytgkjendknckibaa", sum := "c1afc7268e9e634e64015201f6bd095461ada02c0a5c573eae8c5cc856ceb2bb", func := "mews/mewslaw13.FreqLeast", spec := "freqLeast", unfollowed := true, recurses := true, apart := false, narrowed := true }
def FreqLeastUptoSaid : Prop := freqLeastUptoRow.holds Try.pinned (OpenSpec.upto freqLeastSpec)

/-- 'mewslaw13.FreqNobody', WHERE WHAT IT READS IS OF BULK AT MOST 1048576: true; the input reads as it did. -/
def freqNobodyUptoRow : OpenClaim := { program := "ytgkjendknckibaa", sum := "c1afc7268e9e634e64015201f6bd095461ada02c0a5c573eae8c5cc856ceb2bb", func := "mews/mewslaw13.FreqNobody", spec := "freqNobody", unfollowed := true, recurses := true, apart := false, narrowed := true }
def FreqNobodyUptoSaid : Prop := freqNobodyUptoRow.holds Try.pinned (OpenSpec.upto freqNobodySpec)

end Rows
end Go.Proofs.Ytgkjendknckibaa
