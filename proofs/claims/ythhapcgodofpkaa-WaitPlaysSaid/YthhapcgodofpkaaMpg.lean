/-
  A range over a map that is owned, inside a fence. Over any program.
-/
import Derived.Test.YthhapcgodofpkaaMpi
import Derived.OwnWalkIn
namespace Go.Sl
open Go.RowKit Go.MapKept
set_option linter.unusedVariables false
set_option linter.unusedSectionVars false
section
variable {κ : Type} [DecidableEq κ] {kv : κ → Value} {w0 : World} {b r : Nat} {l todo : List (κ × Value)} {R : HP} {F : Fence} {n : Nat} {P : Program} (w : World) {ops : Array Oper} {rest : List Oper} {o : Oper} {a : Act} {Q : Exit → Act → World → Prop}
/-- 'range m', at the operation. -/
theorem wpListIn_range_sl (hg : o.guard = none) (m : Operand) (t : TypeId) (hop : o.op = Op.range t m) (k e : TypeId) (ht : P.underlying t = some (.map k e)) (hm : a.eval m = .map (some b)) (S : Sat w0 w (gmap kv b l * R))
    (hK : ∀ w' r, Sat w0 w' (ranging kv b r l l * R) → wpListIn F n P ops Q rest (a.put o.dst (.pointer (some ⟨r, 0, none⟩))) w') :
    wpListIn F n P ops Q (o :: rest) a w := by
  refine wpListIn_plain hg fun K' hK' => ?_
  obtain ⟨w', hrun, S'⟩ := S.run_range ht
  unfold Oper.wpIn
  refine ⟨by simp [Oper.about, hop], ?_⟩
  rw [Oper.semAt_plain F _ _ (by rw [hop]; intro c hc'; cases hc')]
  simp [execOp, hop, hm, hrun, Result.andThen]
  exact hK' _ _ (hK w' _ S')
/-- The step, at the operation. -/
theorem wpListIn_next_sl (hg : o.guard = none) (it : Operand) (hop : o.op = Op.next it false) (K : ∀ x y, kv x = kv y → x = y) (hit : a.eval it = .pointer (some ⟨r, 0, none⟩)) (S : Sat w0 w (ranging kv b r l todo * R))
    (hDone : todo = [] → wpListIn F n P ops Q rest (a.put o.dst (.tuple #[.bool false])) w)
    (hMore : ∀ k v w', (k, v) ∈ todo → (Instr.entry (.pointer (some ⟨r, 0, none⟩))).run P w' = .ok (.tuple #[kv k, v]) w' → Sat w0 w' (ranging kv b r l (era todo k) * R) → wpListIn F n P ops Q rest (a.put o.dst (.tuple #[.bool true, kv k, v])) w') :
    wpListIn F n P ops Q (o :: rest) a w := by
  refine wpListIn_plain hg fun K' hK' => ?_
  unfold Oper.wpIn
  refine ⟨by simp [Oper.about, hop], ?_⟩
  rw [Oper.semAt_plain F _ _ (by rw [hop]; intro c hc'; cases hc')]
  rcases S.run_next (P := P) K o.type with ⟨h0, hrun⟩ | ⟨k, v, w', hm, hrun, hen, S'⟩
  · simp [execOp, hop, hit, hrun, Result.andThen]
    exact hK' _ _ (hDone h0)
  · simp [execOp, hop, hit, hrun, Result.andThen]
    exact hK' _ _ (hMore k v w' hm hen S')
end
end Go.Sl
