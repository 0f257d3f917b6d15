/-
  Rows of flat elements (structs of plain fields), owned: read, and handed on as made.
-/
import Derived.Test.YthhapcgodofpkaaKd
namespace Go.Sl
open Go.RowKit Go.Proofs.YthhapcgodofpkaaW.PrintWords
set_option linter.unusedVariables false
set_option linter.unusedSimpArgs false

/-- A kind whose elements are their cells, and nothing more. -/
structure Flat {α : Type} (d : Kd α) (enc : α → List Value) : Prop where
  len : ∀ x, (enc x).length = d.sz
  K : ∀ w x, d.K w x (enc x)
  M : ∀ w base ok x, d.M w base ok x (enc x)
  pos : 0 < d.sz
section
variable {α : Type} {d : Kd α} {enc : α → List Value} {e : Nat} {w0 w w' : World} {v : Value} {n : Nat} {xs : List α} {R : HP}
theorem flat_length (F : Flat d enc) : ∀ xs : List α, (xs.flatMap enc).length = xs.length * d.sz
  | [] => by simp
  | x :: xs => by rw [List.flatMap_cons, List.length_append, flat_length F xs, F.len, List.length_cons, Nat.add_mul, Nat.one_mul, Nat.add_comm]
theorem flat_at (F : Flat d enc) : ∀ (xs : List α) (j : Nat) (p : α), xs[j]? = some p → ((xs.flatMap enc).drop (j * d.sz)).take d.sz = enc p
  | [], j, p, h => by simp at h
  | x :: xs, 0, p, h => by
    simp only [List.getElem?_cons_zero, Option.some.injEq] at h
    subst h
    rw [List.flatMap_cons, Nat.zero_mul, List.drop_zero, ← F.len x, List.take_left]
  | x :: xs, j + 1, p, h => by
    rw [List.getElem?_cons_succ] at h
    rw [List.flatMap_cons, Nat.add_mul, Nat.one_mul, Nat.add_comm, ← List.drop_drop, ← F.len x, List.drop_left, F.len x]
    exact flat_at F xs j p h
theorem flat_reps (F : Flat d enc) {Q : α → List Value → Prop} (h : ∀ x, Q x (enc x)) (xs : List α) : Reps Q d.sz xs (xs.flatMap enc) :=
  ⟨flat_length F xs, fun j p hp => by rw [flat_at F xs j p hp]; exact h p⟩
theorem flat_cell (F : Flat d enc) {xs : List α} {j i : Nat} {p : α} {u : Value} (hp : xs[j]? = some p) (hu : (enc p)[i]? = some u) : (xs.flatMap enc)[j * d.sz + i]? = some u := by
  have h := flat_at F xs j p hp
  have hi : i < d.sz := by rw [← F.len p]; exact (List.getElem?_eq_some_iff.1 hu).1
  rw [← h, List.getElem?_take_of_lt hi, List.getElem?_drop] at hu
  exact hu
theorem Sat.row_C (F : Flat d enc) (hn : n = xs.length) (S : Sat w0 w (row e d.sz v n (xs.flatMap enc) * R)) : ∃ A c, v = .slice A xs.length c ∧ xs.length ≤ c ∧ d.C w A xs.length xs := by
  subst hn
  obtain ⟨hl, h⟩ := S.row_open
  rcases h with ⟨rfl, h0, hx, _⟩ | ⟨g, cap, cur, rfl, hn, hm, hs, ht, S1⟩
  · have : xs = [] := List.eq_nil_of_length_eq_zero h0
    subst this
    exact ⟨none, 0, rfl, Nat.le_refl _, readsNone _ _⟩
  · refine ⟨_, cap, rfl, hn, rfl, by unfold maxLen at hm; omega, fun _ => ⟨_, rfl, fun j p hp => ⟨enc p, F.len p, F.K w p, fun i u hu => ?_⟩⟩⟩
    obtain ⟨g', e1, hc⟩ := S.row_cells (j * d.sz + i) u (flat_cell F hp hu)
    injection e1 with e1
    injection e1 with e1
    subst e1
    rw [Addr.add_lit, Nat.zero_add]
    exact hc
theorem Sat.row_C_at {A : Option Addr} {m c : Nat} (F : Flat d enc) (hn : n = xs.length) (S : Sat w0 w (row e d.sz (.slice A m c) n (xs.flatMap enc) * R)) : d.C w A xs.length xs := by
  obtain ⟨A', c', e1, _, h⟩ := S.row_C F hn
  injection e1 with e1 e2 e3
  subst e1
  exact h
/-- A row that is the call's own alone: as the printed contracts say it. -/
theorem Sat.row_R (F : Flat d enc) (S : Sat w w' (row e d.sz v xs.length (xs.flatMap enc) * Sl.old w)) : d.R e w' w.heap.size (fun _ => True) v xs ∧ Below w.heap.size w w' := by
  obtain ⟨hl, h⟩ := S.row_open
  refine ⟨?_, S.drop1.old1⟩
  rcases h with ⟨rfl, h0, hx, _⟩ | ⟨g, cap, cur, rfl, hn, hm, hs, ht, S1⟩
  · have : xs = [] := List.eq_nil_of_length_eq_zero h0
    subst this
    exact Kd.R_nil _ _ _ _ _
  · exact ⟨fun _ _ => trivial, xs.flatMap enc, ⟨hl, .inr ⟨g, cap, cur, rfl, Sat.ge (R := emp) (by rw [mul_emp]; exact S1), S1.blk, hn, hm, hs, ht⟩⟩, flat_reps F (F.M _ _ _) xs⟩
/-- A row that is owned, told as one that was made. -/
theorem Sat.row_to_made (F : Flat d enc) (S : Sat w0 w (row e d.sz v xs.length (xs.flatMap enc) * R)) : Sat w0 w (made d e v xs * R) := by
  obtain ⟨hl, h⟩ := S.row_open
  unfold made
  rcases h with ⟨rfl, h0, hx, S1⟩ | ⟨g, cap, cur, rfl, hn, hm, hs, ht, S1⟩
  · have : xs = [] := List.eq_nil_of_length_eq_zero h0
    subst this
    refine Sat.mk_ex1 (w, w.heap.size) (Sat.mk_wh1 (Kd.R_nil _ _ _ _ _) ?_)
    rw [← emp_mul R] at S1
    refine S1.mono1 fun h hh b => ?_
    rw [hh b]
    by_cases hle : w.heap.size ≤ b
    · rw [if_pos hle]; simp [hle]
    · rw [if_neg hle]
  · have hlt := S1.lt
    have hblk := S1.blk
    have hx : (w.heap.extract 0 (g + 1))[g]? = some (.cells cur e (0, 0)) := by
      rw [Array.getElem?_extract, if_pos (by omega), Nat.zero_add]; exact hblk
    refine Sat.mk_ex1 ({ w with heap := w.heap.extract 0 (g + 1) }, g) (Sat.mk_wh1 ?_ ?_)
    · exact ⟨fun _ _ => trivial, xs.flatMap enc, ⟨hl, .inr ⟨g, cap, cur, rfl, Nat.le_refl _, hx, hn, hm, hs, ht⟩⟩, flat_reps F (F.M _ _ _) xs⟩
    · refine S1.mono1 fun h hh b => ?_
      rw [hh]
      by_cases e1 : b = g
      · subst e1; simp only [if_true, Nat.le_refl]; exact hx.symm
      · simp only [e1, if_false]
        by_cases hle : g ≤ b
        · rw [if_pos hle, Array.getElem?_eq_none (by simp; omega)]
        · rw [if_neg hle]
end
end Go.Sl
