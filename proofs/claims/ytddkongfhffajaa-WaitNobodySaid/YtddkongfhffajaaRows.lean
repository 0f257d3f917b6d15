/-
  No cell of these rows narrows 'for every input' (looked for: loops, veiled, ifaces, maps, wideKeys, modest, calm, conditions, laid).
  DERIVED. THE GIVEN ROWS OF THIS SEAT. 6 by the template 'for every input the law returns true; each argument reads behind the call as it read before'; 0 by the template 'total and deterministic' (their statements: YtddkongfhffajaaTotals.lean).
  GIVEN WITH THE SEED: the statements are not yours to turn. If you find one false, say at which input.
  Laid BY PROGRAM, IN A SANDBOX (cutbox-rows.mjs): the forced cells as the released guide's own fill.sh prints them over the translation f63e8c54ddcf0ce2… (all of the seat's roots in one cut). By AI agents, Wed Nov 11 2026. No macro, syntax, notation, axiom, sorry.
-/
import Derived.Test.YtddkongfhffajaaChecked
import GoSem.Claim
import GoSem.ClaimJoined
import GoSem.ClaimMapViews
import Derived.JoinedTies
import Derived.KernelRfl
namespace Go.Proofs.Ytddkongfhffajaa
/- THE CELL 'sum', in the pinned program and in every row, IS THE sha256 OF THE DUMP (.gsa) THAT YtddkongfhffajaaProg.lean LOADS. Nothing in Lean hashes anything: it is a label: what it is worth is what the hold of that sum in a sandbox is worth. -/
noncomputable def Try.pinned : Pinned := { name := "ytddkongfhffajaa", sum := "f63e8c54ddcf0ce2377087dd23664c22a613b0d9a45397c4117e6299ae9f64db", checked := Try.checked }
namespace Rows
def none {H : Type} : Left H := { results := [], args := [] }

/-- 'mewslaw12.OrderPlays': WHATEVER THE INPUT: true; the input reads as it did. -/
def orderPlaysSpec : ChangeSpec := { name := "orderPlays", fn := fun _ => fun
  | [d1, d2] => { results := [.lit (.bool true)], args := [d1, d2] }
  | _ => none }
def orderPlaysRow : OpenClaim := { program := "ytddkongfhffajaa", sum := "f63e8c54ddcf0ce2377087dd23664c22a613b0d9a45397c4117e6299ae9f64db", func := "mews/mewslaw12.OrderPlays", spec := "orderPlays", unfollowed := true, recurses := true, apart := false }
def OrderPlaysSaid : Prop := orderPlaysRow.holds Try.pinned (OpenSpec.ofChange orderPlaysSpec)

/-- ITS FALSE NEIGHBOUR: 'it returns false'. Refute it at one input. -/
def orderPlaysWrong : ChangeSpec := { name := "orderPlays", fn := fun _ => fun
  | [d1, d2] => { results := [.lit (.bool false)], args := [d1, d2] }
  | _ => none }
def OrderPlaysWrongFalsely : Prop := orderPlaysRow.holds Try.pinned (OpenSpec.ofChange orderPlaysWrong)

/-- 'mewslaw12.OrderLast': WHATEVER THE INPUT: true; the input reads as it did. -/
def orderLastSpec : ChangeSpec := { name := "orderLast", fn := fun _ => fun
  | [d] => { results := [.lit (.bool true)], args := [d] }
  | _ => none }
def orderLastRow : OpenClaim := { program := "ytddkongfhffajaa", sum := "f63e8c54ddcf0ce2377087dd23664c22a613b0d9a45397c4117e6299ae9f64db", func := "mews/mewslaw12.OrderLast", spec := "orderLast", unfollowed := true, recurses := true, apart := false }
def OrderLastSaid : Prop := orderLastRow.holds Try.pinned (OpenSpec.ofChange orderLastSpec)

/-- ITS FALSE NEIGHBOUR: 'it returns false'. Refute it at one input. -/
def orderLastWrong : ChangeSpec := { name := "orderLast", fn := fun _ => fun
  | [d] => { results := [.lit (.bool false)], args := [d] }
  | _ => none }
def OrderLastWrongFalsely : Prop := orderLastRow.holds Try.pinned (OpenSpec.ofChange orderLastWrong)

/-- 'mewslaw12.OrderNobody': WHATEVER THE INPUT: true; the input reads as it did. -/
def orderNobodySpec : ChangeSpec := { name := "orderNobody", fn := fun _ => fun
  | [d] => { results := [.lit (.bool true)], args := [d] }
  | _ => none }
def orderNobodyRow : OpenClaim := { program := "ytddkongfhffajaa", sum := "f63e8c54ddcf0ce2377087dd23664c22a613b0d9a45397c4117e6299ae9f64db", func := "mews/mewslaw12.OrderNobody", spec := "orderNobody", unfollowed := true, recurses := true, apart := false }
def OrderNobodySaid : Prop := orderNobodyRow.holds Try.pinned (OpenSpec.ofChange orderNobodySpec)

/-- ITS FALSE NEIGHBOUR: 'it returns false'. Refute it at one input. -/
def orderNobodyWrong : ChangeSpec := { name := "orderNobody", fn := fun _ => fun
  | [d] => { results := [.lit (.bool false)], args := [d] }
  | _ => none }
def OrderNobodyWrongFalsely : Prop := orderNobodyRow.holds Try.pinned (OpenSpec.ofChange orderNobodyWrong)

/-- 'mewslaw38.WaitOrder': WHATEVER THE INPUT: true; the input reads as it did. -/
def waitOrderSpec : ChangeSpec := { name := "waitOrder", fn := fun _ => fun
  | [d1, d2] => { results := [.lit (.bool true)], args := [d1, d2] }
  | _ => none }
def waitOrderRow : OpenClaim := { program := "ytddkongfhffajaa", sum := "f63e8c54ddcf0ce2377087dd23664c22a613b0d9a45397c4117e6299ae9f64db", func := "mews/mewslaw38.WaitOrder", spec := "waitOrder", apart := false }
def WaitOrderSaid : Prop := waitOrderRow.holds Try.pinned (OpenSpec.ofChange waitOrderSpec)

/-- ITS FALSE NEIGHBOUR: 'it returns false'. Refute it at one input. -/
def waitOrderWrong : ChangeSpec := { name := "waitOrder", fn := fun _ => fun
  | [d1, d2] => { results := [.lit (.bool false)], args := [d1, d2] }
  | _ => none }
def WaitOrderWrongFalsely : Prop := waitOrderRow.holds Try.pinned (OpenSpec.ofChange waitOrderWrong)

/-- 'mewslaw38.WaitPlays': WHATEVER THE INPUT: true; the input reads as it did. -/
def waitPlaysSpec : ChangeSpec := { name := "waitPlays", fn := fun _ => fun
  | [d1, d2] => { results := [.lit (.bool true)], args := [d1, d2] }
  | _ => none }
def waitPlaysRow : OpenClaim := { program := "ytddkongfhffajaa", sum := "f63e8c54ddcf0ce2377087dd23664c22a613b0d9a45397c4117e6299ae9f64db", func := "mews/mewslaw38.WaitPlays", spec := "waitPlays", unfollowed := true, recurses := true, apart := false }
def WaitPlaysSaid : Prop := waitPlaysRow.holds Try.pinned (OpenSpec.ofChange waitPlaysSpec)

/-- ITS FALSE NEIGHBOUR: 'it returns false'. Refute it at one input. -/
def waitPlaysWrong : ChangeSpec := { name := "waitPlays", fn := fun _ => fun
  | [d1, d2] => { results := [.lit (.bool false)], args := [d1, d2] }
  | _ => none }
def WaitPlaysWrongFalsely : Prop := waitPlaysRow.holds Try.pinned (OpenSpec.ofChange waitPlaysWrong)

/-- 'mewslaw38.WaitNobody': WHATEVER THE INPUT: true; the input reads as it did. -/
def waitNobodySpec : ChangeSpec := { name := "waitNobody", fn := fun _ => fun
  | [d1, d2] => { results := [.lit (.bool true)], args := [d1, d2] }
  | _ => none }
def waitNobodyRow : OpenClaim := { program := "ytddkongfhffajaa", sum := "f63e8c54ddcf0ce2377087dd23664c22a613b0d9a45397c4117e6299ae9f64db", func := "mews/mewslaw38.WaitNobody", spec := "waitNobody", unfollowed := true, recurses := true, apart := false }
def WaitNobodySaid : Prop := waitNobodyRow.holds Try.pinned (OpenSpec.ofChange waitNobodySpec)

/-- ITS FALSE NEIGHBOUR: 'it returns false'. Refute it at one input. -/
def waitNobodyWrong : ChangeSpec := { name := "waitNobody", fn := fun _ => fun
  | [d1, d2] => { results := [.lit (.bool false)], args := [d1, d2] }
  | _ => none }
def WaitNobodyWrongFalsely : Prop := waitNobodyRow.holds Try.pinned (OpenSpec.ofChange waitNobodyWrong)

/- THE SECOND FORM. 'bulk': how many values and letters a reading holds, each counted each time it is reached (what is shared counts as often as it is met; a slice's spare places count too). A statement '..UptoSaid' is the law's where the arguments, and the package variables that the reading takes, are together of bulk at most 1048576: NARROWER than '..Said'. Prove '..Said' where nothing that the law and all that it calls make is longer than what came in: it says more and counts as full. Else prove '..UptoSaid'. A law counts once. -/
mutual
def uptoBulk {H : Type} : DataW H → Nat
  | .lit (.string bytes) => bytes.length + 1
  | .lit _ => 1
  | .nil => 1
  | .ptr d => uptoBulk d + 1
  | .slice elems spare => uptoBulkAll elems + uptoBulkAll spare + 1
  | .agg parts => uptoBulkAll parts + 1
  | .iface _ d => uptoBulk d + 1
  | .map entries => uptoBulkEntries entries + 1
  | .held _ => 1
def uptoBulkAll {H : Type} : List (DataW H) → Nat
  | [] => 0
  | d :: r => uptoBulk d + uptoBulkAll r
def uptoBulkEntries {H : Type} : List (Lit × DataW H) → Nat
  | [] => 0
  | x :: r => uptoBulkEntry x + uptoBulkEntries r
def uptoBulkEntry {H : Type} : Lit × DataW H → Nat
  | (.string bytes, d) => bytes.length + uptoBulk d + 1
  | (_, d) => uptoBulk d + 1
 end
def uptoSmall : (H : Type) → List (DataW H) → Bool := fun _ ds => decide (uptoBulkAll ds ≤ 1048576)
def OpenSpec.upto (s : _root_.Go.ChangeSpec) : _root_.Go.OpenSpec := { _root_.Go.OpenSpec.ofChange s with cond := some uptoSmall }

/-- 'mewslaw12.OrderPlays', WHERE WHAT IT READS IS OF BULK AT MOST 1048576: true; the input reads as it did. -/
def orderPlaysUptoRow : OpenClaim := { program := "ytddkongfhffajaa", sum := "f63e8c54ddcf0ce2377087dd23664c22a613b0d9a45397c4117e6299ae9f64db", func := "mews/mewslaw12.OrderPlays", spec := "orderPlays", unfollowed := true, recurses := true, apart := false, narrowed := true }
def OrderPlaysUptoSaid : Prop := orderPlaysUptoRow.holds Try.pinned (OpenSpec.upto orderPlaysSpec)

/-- 'mewslaw12.OrderLast', WHERE WHAT IT READS IS OF BULK AT MOST 1048576: true; the input reads as it did. -/
def orderLastUptoRow : OpenClaim := { program := "ytddkongfhffajaa", sum := "f63e8c54ddcf0ce2377087dd23664c22a613b0d9a45397c4117e6299ae9f64db", func := "mews/mewslaw12.OrderLast", spec := "orderLast", unfollowed := true, recurses := true, apart := false, narrowed := true }
def OrderLastUptoSaid : Prop := orderLastUptoRow.holds Try.pinned (OpenSpec.upto orderLastSpec)

/-- 'mewslaw12.OrderNobody', WHERE WHAT IT READS IS OF BULK AT MOST 1048576: true; the input reads as it did. -/
def orderNobodyUptoRow : OpenClaim := { program := "ytddkongfhffajaa", sum := "f63e8c54ddcf0ce2377087dd23664c22a613b0d9a45397c4117e6299ae9f64db", func := "mews/mewslaw12.OrderNobody", spec := "orderNobody", unfollowed := true, recurses := true, apart := false, narrowed := true }
def OrderNobodyUptoSaid : Prop := orderNobodyUptoRow.holds Try.pinned (OpenSpec.upto orderNobodySpec)

/-- 'mewslaw38.WaitOrder', WHERE WHAT IT READS IS OF BULK AT MOST 1048576: true; the input reads as it did. -/
def waitOrderUptoRow : OpenClaim := { program := "ytddkongfhffajaa", sum := "f63e8c54ddcf0ce2377087dd23664c22a613b0d9a45397c4117e6299ae9f64db", func := "mews/mewslaw38.WaitOrder", spec := "waitOrder", apart := false, narrowed := true }
def WaitOrderUptoSaid : Prop := waitOrderUptoRow.holds Try.pinned (OpenSpec.upto waitOrderSpec)

/-- 'mewslaw38.WaitPlays', WHERE WHAT IT READS IS OF BULK AT MOST 1048576: true; the input reads as it did. -/
def waitPlaysUptoRow : OpenClaim := { program := "ytddkongfhffajaa", sum := "f63e8c54ddcf0ce2377087dd23664c22a613b0d9a45397c4117e6299ae9f64db", func := "mews/mewslaw38.WaitPlays", spec := "waitPlays", unfollowed := true, recurses := true, apart := false, narrowed := true }
def WaitPlaysUptoSaid : Prop := waitPlaysUptoRow.holds Try.pinned (OpenSpec.upto waitPlaysSpec)

/-- 'mewslaw38.WaitNobody', WHERE WHAT IT READS IS OF BULK AT MOST 1048576: true; the input reads as it did. -/
def waitNobodyUptoRow : OpenClaim := { program := "ytddkongfhffajaa", sum := "f63e8c54ddcf0ce2377087dd23664c22a613b0d9a45397c4117e6299ae9f64db", func := "mews/mewslaw38.WaitNobody", spec := "waitNobody", unfollowed := true, recurses := true, apart := false, narrowed := true }
def WaitNobodyUptoSaid : Prop := waitNobodyUptoRow.holds Try.pinned (OpenSpec.upto waitNobodySpec)

end Rows
end Go.Proofs.Ytddkongfhffajaa
