/-
  Rows that are read and rows that were made (the printed words' kinds), beside owned blocks.
-/
import Derived.Test.YthhapcgodofpkaaRow
import Derived.Test.YthhapcgodofpkaaWWords
namespace Go.Sl
open Go.RowKit Go.Proofs.YthhapcgodofpkaaW.PrintWords
set_option linter.unusedVariables false

/-- A row that was made, with all that was made beside it: it stays as it is. -/
def made {α : Type} (d : Kd α) (e : Nat) (v : Value) (xs : List α) : HP :=
  ex fun p : World × Nat => wh (d.R e p.1 p.2 (fun _ => True) v xs) (fun h => ∀ b, h b = if p.2 ≤ b then p.1.heap[b]? else none)

section
variable {α : Type} {d : Kd α} {e : Nat} {w0 w w' : World} {v : Value} {xs : List α} {A R : HP}
theorem Sat.made_keep {ok : Nat → Prop} (S : Sat w0 w A) (hb : Below w.heap.size w w') (h : d.R e w' w.heap.size ok v xs) : Sat w0 w' (made d e v xs * A) := by
  obtain ⟨g, hg, hw⟩ := S.has
  unfold made
  rw [ex_mul]
  refine Sat.mk_ex (w', w.heap.size) ?_
  refine Sat.mk_wh1 (Kd.R_mono h (fun _ _ => trivial)) ?_
  refine S.env hb.os hb.tape hb.output hb.size ⟨fun b => if w.heap.size ≤ b then w'.heap[b]? else g b, ⟨fun b => if w.heap.size ≤ b then w'.heap[b]? else none, g, fun b => ?_, fun b => ?_, fun b => rfl, hg⟩, fun b o ho => ?_⟩
  · by_cases hle : w.heap.size ≤ b
    · right
      cases hgb : g b with
      | none => rfl
      | some u => exact absurd (Array.getElem?_eq_some_iff.1 (hw b u hgb)).1 (by omega)
    · left; simp [hle]
  · by_cases hle : w.heap.size ≤ b
    · simp only [hle, if_true]
      have : g b = none := by
        cases hgb : g b with
        | none => rfl
        | some u => exact absurd (Array.getElem?_eq_some_iff.1 (hw b u hgb)).1 (by omega)
      rw [this]; simp
    · simp [hle]
  · by_cases hle : w.heap.size ≤ b
    · simpa [hle] using ho
    · simp only [hle, if_false] at ho
      have := hw b o ho
      exact (hb.block b (by omega)).trans this
theorem Sat.made_reads (S : Sat w0 w (made d e v xs * R)) : ∃ A c, v = .slice A xs.length c ∧ xs.length ≤ c ∧ d.C w A xs.length xs := by
  unfold made at S
  obtain ⟨p, S⟩ := S.ex1
  obtain ⟨h, S⟩ := S.wh1
  obtain ⟨g, ⟨g1, g2, hd, hu, hg1, _⟩, hw⟩ := S.has
  have h2 := Kd.R_step (w1 := w) (Kd.R_bound h) (fun k hk hlt => by
    obtain ⟨_, hge, _⟩ := hk
    obtain ⟨o, ho⟩ : ∃ o, p.1.heap[k]? = some o := ⟨_, Array.getElem?_eq_getElem hlt⟩
    rw [ho]
    refine hw k o ?_
    rw [hu k, hg1 k, if_pos hge, ho]; simp)
  exact Kd.R_reads h2
theorem Sat.made_at {A0 : Option Addr} {n c : Nat} (S : Sat w0 w (made d e (.slice A0 n c) xs * R)) : d.C w A0 xs.length xs := by
  obtain ⟨A', c', e1, _, h⟩ := S.made_reads
  injection e1 with e1 e2 e3
  subst e1
  exact h
end

/-- A row of texts. -/
theorem readsStr {w : World} {g : Nat} {xs : List ByteArray} (hl : xs.length ≤ 9223372036854775807) (h : ∀ j u, (xs.map Value.string)[j]? = some u → w.cell? ⟨g, j, none⟩ = some u) : Kd.C Kd.string w (some ⟨g, 0, none⟩) xs.length xs := by
  refine ⟨rfl, hl, fun _ => ⟨_, rfl, fun j p hp => ⟨[.string p], rfl, rfl, fun i u hi => ?_⟩⟩⟩
  have hi0 : i = 0 := by
    have := (List.getElem?_eq_some_iff.1 hi).1
    simp at this; exact this
  subst hi0
  simp only [List.getElem?_cons_zero, Option.some.injEq] at hi
  subst hi
  have := h j (.string p) (by rw [List.getElem?_map, hp]; rfl)
  have e1 : (⟨g, 0, none⟩ : Addr).add (j * (Kd.string).sz + 0) = ⟨g, j, none⟩ := by
    show (⟨g, 0, none⟩ : Addr).add (j * 1 + 0) = _
    unfold Addr.add
    by_cases hj : j = 0 <;> simp [hj]
  rw [e1]
  exact this
theorem readsNone {w : World} {α : Type} (d : Kd α) (A : Option Addr) : Kd.C d w A 0 [] := ⟨rfl, by omega, fun h => by omega⟩
theorem Sat.row_str {w0 w : World} {e : Nat} {v : Value} {n : Nat} {xs : List ByteArray} {R : HP} (hn : n = xs.length) (S : Sat w0 w (row e 1 v n (xs.map Value.string) * R)) :
    ∃ A c, v = .slice A xs.length c ∧ xs.length ≤ c ∧ Kd.C Kd.string w A xs.length xs := by
  subst hn
  obtain ⟨hl, h⟩ := S.row_open
  rcases h with ⟨rfl, h0, hx, _⟩ | ⟨g, cap, cur, rfl, hn, hm, hs, ht, S1⟩
  · have : xs = [] := by cases xs with | nil => rfl | cons a b => cases hx
    subst this
    exact ⟨none, 0, rfl, Nat.le_refl _, readsNone _ _⟩
  · refine ⟨_, cap, rfl, hn, readsStr (by unfold maxLen at hm; omega) fun j u hj => ?_⟩
    obtain ⟨g', e1, hc⟩ := S.row_cells j u hj
    injection e1 with e1
    injection e1 with e1
    subst e1
    exact hc
theorem Sat.row_at {w0 w : World} {e : Nat} {A : Option Addr} {m c n : Nat} {xs : List ByteArray} {R : HP} (hn : n = xs.length) (S : Sat w0 w (row e 1 (.slice A m c) n (xs.map Value.string) * R)) : Kd.C Kd.string w A xs.length xs := by
  obtain ⟨A', c', e1, _, h⟩ := S.row_str hn
  injection e1 with e1 e2 e3
  subst e1
  exact h
end Go.Sl
