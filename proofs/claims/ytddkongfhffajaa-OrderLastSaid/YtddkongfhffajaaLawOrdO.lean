/-
  The statements of layer 12: their arguments opened.
-/
import Derived.Test.YtddkongfhffajaaLawOrdP
import Derived.Test.YtddkongfhffajaaOpen
import Derived.KernelRfl
namespace Go.Sl
open Go.RowKit Go.Proofs Go.Proofs.YtddkongfhffajaaW.PrintWords Go.Proofs.Ytddkongfhffajaa.POrderPlays
set_option linter.unusedVariables false
instance : Inhabited S29 := ⟨z29⟩
theorem opensOp : Opens Try.prog 29 k29 (fun _ => True) := by
  have h := opens_struct (P := Try.prog) (t := 29) Try.underlying29 (by kernel_rfl) (opensFs_cons (opens_bool Try.underlying4) rfl (by kernel_rfl) (opensFs_one (off := 1) (opens_string Try.underlying9) rfl (by kernel_rfl)) rfl rfl)
  exact (h.iso (fun x : S29 => (x.f0, x.f1)) (fun p => ⟨p.1, p.2⟩) (fun _ => rfl)).weaken (fun _ _ => trivial)
theorem opensOps : Opens Try.prog 22 (Kd.slice 29 k29) (fun xs => ∀ x ∈ xs, True) := opens_slice Try.underlying22 (by kernel_rfl) opensOp
theorem playsWalk {w : World} {A0 : Option Addr} {c0 : Nat} {l : List S29} (hC : Kd.C k29 w A0 l.length l) (hc : l.length ≤ c0) (_ : ∀ x ∈ l, True) (key : ByteArray) (_ : key.size ≤ maxLen) :
    Calls Try.prog 3 #[.slice A0 l.length c0, .string key] w fun en w' => en = .returned (.bool true) ∧ Below w.heap.size w w' := playsOrd hC hc
end Go.Sl
