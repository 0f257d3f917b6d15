/-
  One row appended to another. Over any program.
-/
import Derived.Test.YthhapcgodofpkaaRow
namespace Go.Sl
open Go.RowKit
set_option linter.unusedVariables false
set_option linter.unusedSimpArgs false
section
variable {w0 w : World} {e n m : Nat} {v v2 : Value} {xs ys : List Value} {R : HP} {P : Program}
theorem run_append_nil {t : TypeId} {i : TypeInfo} (ty : TypeId) (ht : P.underlying t = some (.slice e)) (hi : P.info? e = some i) {A : Option Addr} {n c c2 : Nat} (hn : n ≤ c) (w : World) :
    (Builtin.append_ #[t, t] ty #[.slice A n c, .slice none 0 c2]).run P w = .ok (.slice A n c) w := by
  cases A <;> simp [Builtin.append_, run_underlying ht, sizeOf, typeInfo, hi, Builtin.lenOf, Builtin.firstCells, storeCells, Result.andThen, hn]
/-- 'append(v, nothing...)'. -/
theorem Sat.run_append_zero (S : Sat w0 w (row e 1 v n xs * R)) (t ty : TypeId) {z : Value} {bytes : Nat} (ht : P.underlying t = some (.slice e)) (hinfo : (P.info? e).map (fun i => (i.zero, i.size, i.bytes)) = some (some z, 1, bytes))
    (hzs : z.cells.size = 1) (h63 : n ≤ maxLen) (hbytes : n * bytes ≤ 140737488355328) (A : Option Addr) (c : Nat) :
    ∃ v' w', (Builtin.append_ #[t, t] ty #[v, .slice A 0 c]).run P w = .ok v' w' ∧ Sat w0 w' (row e 1 v' n xs * R) := by
  cases A with
  | none =>
    obtain ⟨i, hi, _⟩ := info_parts hinfo
    obtain ⟨_, h'⟩ := S.row_open
    rcases h' with ⟨rfl, rfl, rfl, _⟩ | ⟨g, cap, cur, rfl, hn, hm, hs, htk, S2⟩
    · exact ⟨_, w, run_append_nil ty ht hi (Nat.le_refl _) w, S⟩
    · exact ⟨_, w, run_append_nil ty ht hi hn w, S⟩
  | some a =>
    obtain ⟨v', w', hr, S'⟩ := S.run_append t ty ht hinfo hzs (by decide) a 0 c [] (by simp) (fun j u hj => by simp at hj) (by simp) (by omega) (by rw [Nat.add_zero]; exact hbytes)
    exact ⟨v', w', hr, by simpa using S'⟩
/-- 'append(v, v2...)', both owned. -/
theorem Sat.run_append_row (S : Sat w0 w (row e 1 v n xs * (row e 1 v2 m ys * R))) (t ty : TypeId) {z : Value} {bytes : Nat} (ht : P.underlying t = some (.slice e)) (hinfo : (P.info? e).map (fun i => (i.zero, i.size, i.bytes)) = some (some z, 1, bytes))
    (hzs : z.cells.size = 1) (h1 : ∀ u ∈ ys, u.oneCell' = true) (h63 : n + m ≤ maxLen) (hbytes : (n + m) * bytes ≤ 140737488355328) :
    ∃ v' w', (Builtin.append_ #[t, t] ty #[v, v2]).run P w = .ok v' w' ∧ Sat w0 w' (row e 1 v' (n + m) (xs ++ ys) * (row e 1 v2 m ys * R)) := by
  obtain ⟨hl, h⟩ := S.p2.row_open
  rcases h with ⟨rfl, rfl, rfl, _⟩ | ⟨g, cap, cur, rfl, hn, hm, hs, htk, S2⟩
  · obtain ⟨i, hi, _⟩ := info_parts hinfo
    obtain ⟨_, h'⟩ := S.row_open
    rcases h' with ⟨rfl, rfl, rfl, _⟩ | ⟨g, cap, cur, rfl, hn, hm, hs, htk, S2⟩
    · exact ⟨_, w, run_append_nil ty ht hi (Nat.le_refl _) w, by simpa using S⟩
    · exact ⟨_, w, run_append_nil ty ht hi hn w, by simpa using S⟩
  · exact S.run_append t ty ht hinfo hzs (by decide) ⟨g, 0, none⟩ m cap ys hl (fun j u hj => by
      obtain ⟨g', e1, hc⟩ := S.p2.row_cells j u hj
      injection e1 with e1
      injection e1 with e1
      subst e1
      rw [Addr.add_lit, Nat.zero_add]
      exact hc) h1 h63 hbytes
end
end Go.Sl
