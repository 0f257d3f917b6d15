/-
  Rows of whole numbers, owned: from what was made, and read.
-/
import Derived.Test.YtddkongfhffajaaKd
namespace Go.Sl
open Go.RowKit Go.Proofs.YtddkongfhffajaaW.PrintWords
set_option linter.unusedVariables false
set_option linter.unusedSimpArgs false

theorem reps_scalar {α : Type} {enc : α → Value} {R : α → List Value → Prop} (hR : ∀ x cs, R x cs → cs = [enc x]) {xs : List α} {inner : List Value} (h : Reps R 1 xs inner) : inner = xs.map enc := by
  obtain ⟨hl, hr⟩ := h
  refine List.ext_getElem (by simpa using hl) fun j h1 h2 => ?_
  have hj : j < xs.length := by simpa using h2
  have := hR _ _ (hr j xs[j] (List.getElem?_eq_getElem hj))
  rw [Nat.mul_one] at this
  have h3 : (inner.drop j).take 1 = [inner[j]] := by
    rw [List.drop_eq_getElem_cons h1]; rfl
  rw [h3] at this
  injection this with this
  rw [this, List.getElem_map]
/-- A row that was made stands beside what was there. -/
theorem Sat.row_made {e : Nat} {w0 w w' : World} {v : Value} {xs : List Int} {k : IntKind} {A : HP} {ok : Nat → Prop} (S : Sat w0 w A) (hb : Below w.heap.size w w') (h : (Kd.int k).R e w' w.heap.size ok v xs) : Sat w0 w' (row e 1 v xs.length (xs.map (Value.int k)) * A) := by
  obtain ⟨_, inner, ho, hr⟩ := h
  have e1 : inner = xs.map (Value.int k) := reps_scalar (fun x cs hx => hx) hr
  subst e1
  have S1 : Sat w0 w' A := S.below hb
  obtain ⟨hl, ho⟩ := ho
  rcases ho with ⟨rfl, h0⟩ | ⟨g, cap, cur, rfl, hg, hc, h1, h2, h3, h4⟩
  · have : xs = [] := List.eq_nil_of_length_eq_zero h0
    subst this
    exact S1.row_nil e 1
  · refine Sat.row_shut hl h1 h2 h3 h4 ?_
    obtain ⟨f, hf, hw⟩ := S.has
    refine S.env hb.os hb.tape hb.output hb.size ⟨fun b => if b = g then some (.cells cur e (0, 0)) else f b, ⟨fun b => if b = g then some (.cells cur e (0, 0)) else none, f, fun b => ?_, fun b => ?_, rfl, hf⟩, fun b o hbo => ?_⟩
    · by_cases eb : b = g
      · right
        cases hfb : f b with
        | none => rfl
        | some o => exact absurd (Array.getElem?_eq_some_iff.1 (hw b o hfb)).1 (by omega)
      · left; simp [eb]
    · by_cases eb : b = g
      · simp [eb]
      · simp [eb]
    · by_cases eb : b = g
      · simp [eb] at hbo; subst hbo; rw [eb]; exact hc
      · simp [eb] at hbo
        have := hw b o hbo
        exact (hb.block b (Array.getElem?_eq_some_iff.1 this).1).trans this
theorem readsInt {w : World} {g : Nat} {k : IntKind} {xs : List Int} (hl : xs.length ≤ 9223372036854775807) (h : ∀ j u, (xs.map (Value.int k))[j]? = some u → w.cell? ⟨g, j, none⟩ = some u) : Kd.C (Kd.int k) w (some ⟨g, 0, none⟩) xs.length xs := by
  refine ⟨rfl, hl, fun _ => ⟨_, rfl, fun j p hp => ⟨[.int k p], rfl, rfl, fun i u hi => ?_⟩⟩⟩
  have hi0 : i = 0 := by
    have := (List.getElem?_eq_some_iff.1 hi).1
    simp at this; exact this
  subst hi0
  simp only [List.getElem?_cons_zero, Option.some.injEq] at hi
  subst hi
  have := h j (.int k p) (by rw [List.getElem?_map, hp]; rfl)
  have e1 : (⟨g, 0, none⟩ : Addr).add (j * (Kd.int k).sz + 0) = ⟨g, j, none⟩ := by
    show (⟨g, 0, none⟩ : Addr).add (j * 1 + 0) = _
    unfold Addr.add
    by_cases hj : j = 0 <;> simp [hj]
  rw [e1]
  exact this
theorem Sat.row_ints {w0 w : World} {e : Nat} {v : Value} {n : Nat} {k : IntKind} {xs : List Int} {R : HP} (hn : n = xs.length) (S : Sat w0 w (row e 1 v n (xs.map (Value.int k)) * R)) :
    ∃ A c, v = .slice A xs.length c ∧ xs.length ≤ c ∧ Kd.C (Kd.int k) w A xs.length xs := by
  subst hn
  obtain ⟨hl, h⟩ := S.row_open
  rcases h with ⟨rfl, h0, hx, _⟩ | ⟨g, cap, cur, rfl, hn, hm, hs, ht, S1⟩
  · have : xs = [] := by cases xs with | nil => rfl | cons a b => cases hx
    subst this
    exact ⟨none, 0, rfl, Nat.le_refl _, readsNone _ _⟩
  · refine ⟨_, cap, rfl, hn, readsInt (by unfold maxLen at hm; omega) fun j u hj => ?_⟩
    obtain ⟨g', e1, hc⟩ := S.row_cells j u hj
    injection e1 with e1
    injection e1 with e1
    subst e1
    exact hc
theorem Sat.row_int_at {w0 w : World} {e : Nat} {A : Option Addr} {m c n : Nat} {k : IntKind} {xs : List Int} {R : HP} (hn : n = xs.length) (S : Sat w0 w (row e 1 (.slice A m c) n (xs.map (Value.int k)) * R)) : Kd.C (Kd.int k) w A xs.length xs := by
  obtain ⟨A', c', e1, _, h⟩ := S.row_ints hn
  injection e1 with e1 e2 e3
  subst e1
  exact h
end Go.Sl
