/-
  The contracts of package dict's functions, at values of type int64: Put; tables as lists.
  The contracts of package dict's functions, at values of type int64: Get, Drop, Put.
  The contracts of package dict's functions, at values of type int64: Get, Put, Drop, Len.
  The contracts of package dict's functions, at values of type int64: empty, New, part, Put, Get, Drop.
  The contracts of package dict's functions, at values of type int64: front, step.
  The contracts of package dict's functions, at values of type int64: find.
  The contracts of package dict's functions, at values of type int64: slot, find, front.
  What a table has: the plain words of package dict's tables.
  The contracts of package hash's functions: a text's number, and its place.
  A map that is owned: its block, as a list of keys and values in whatever order. Over any program.
  A slice that is owned, with its array: what it reads as, and append. Over any program.
  Chains of nodes (a key, a value, the next one), and rows of places at which chains begin: owned. Over any program.
  A chain of nodes of three cells (a key, the one before, the one behind), owned; a ring of them. Over any program.
  Assertions on parts of memory (owned blocks), joined by '*': the words in which the contracts of stateful functions are said. Over any program.
-/
import Derived.WalkKit
import Derived.MapKept
import Derived.LaidEqlPtr
import Derived.Lib.Hide
import Derived.Maps.AppendAt
import Derived.OwnWalkIn
import Derived.Carry
import Derived.Test.YteakblblpiihpaaProg
import Derived.KernelRfl
import Derived.WalkSpells
import Derived.IntWalk
import Derived.Laws.BitsLemmas
import Derived.BigRegion
import Derived.Deep.Cut
import Derived.Deep.RegionHeld3
import Derived.Deep.LoopGhost
import Derived.Deep.QuietTactic
import Derived.BigQuiet
import Derived.WalkSmall
import Derived.Laws.OwnMore
import Derived.Laws.Rows
/-! ### Sl -/
namespace Go.Sl
open Go.RowKit
set_option linter.unusedVariables false

abbrev PHeap := Nat → Option Obj
/-- An assertion on a part of memory. -/
def HP : Type := PHeap → Prop
def emp : HP := fun h => ∀ b, h b = none
/-- Block b is there, whole, and is o. -/
def pts (b : Nat) (o : Obj) : HP := fun h => h = fun i => if i = b then some o else none
def sep (A B : HP) : HP := fun h => ∃ h1 h2 : PHeap, (∀ b, h1 b = none ∨ h2 b = none) ∧ (∀ b, h b = (h1 b).or (h2 b)) ∧ A h1 ∧ B h2
instance : Mul HP := ⟨sep⟩
/-- For some x. -/
def ex {α : Type} (A : α → HP) : HP := fun h => ∃ x, A x h
/-- Where p holds. -/
def wh (p : Prop) (A : HP) : HP := fun h => p ∧ A h
/-- All that lay in w0. -/
def old (w0 : World) : HP := fun h => ∀ b, h b = w0.heap[b]?

theorem hp_ext {A B : HP} (h : ∀ x, A x ↔ B x) : A = B := funext fun x => propext (h x)

theorem mul_def (A B : HP) : A * B = sep A B := rfl

theorem sep_comm (A B : HP) : A * B = B * A := by
  refine hp_ext fun h => ⟨?_, ?_⟩ <;>
  · rintro ⟨h1, h2, hd, hu, a, b⟩
    refine ⟨h2, h1, fun b => (hd b).symm, fun b => ?_, b, a⟩
    rw [hu b]
    rcases hd b with e | e <;> rw [e] <;> simp

theorem sep_assoc (A B C : HP) : A * B * C = A * (B * C) := by
  refine hp_ext fun h => ⟨?_, ?_⟩
  · rintro ⟨h12, h3, hd, hu, ⟨h1, h2, hd', hu', a, b⟩, c⟩
    refine ⟨h1, fun i => (h2 i).or (h3 i), fun i => ?_, fun i => ?_, a, h2, h3, fun i => ?_, fun i => rfl, b, c⟩
    · rcases hd' i with e | e
      · exact .inl e
      · rcases hd i with e' | e'
        · rw [hu' i] at e'
          exact .inl (by cases h : h1 i <;> simp_all)
        · exact .inr (by simp [e, e'])
    · rw [hu i, hu' i]; cases h1 i <;> simp
    · rcases hd i with e' | e'
      · rw [hu' i] at e'
        exact .inl (by cases h : h1 i <;> simp_all)
      · exact .inr e'
  · rintro ⟨h1, h23, hd, hu, a, h2, h3, hd', hu', b, c⟩
    refine ⟨fun i => (h1 i).or (h2 i), h3, fun i => ?_, fun i => ?_, ⟨h1, h2, fun i => ?_, fun i => rfl, a, b⟩, c⟩
    · rcases hd' i with e | e
      · rcases hd i with e' | e'
        · exact .inl (by simp [e, e'])
        · rw [hu' i, e] at e'
          exact .inr (by simpa using e')
      · exact .inr e
    · show h i = ((h1 i).or (h2 i)).or (h3 i)
      rw [Option.or_assoc, hu i, hu' i]
    · rcases hd i with e' | e'
      · exact .inl e'
      · rw [hu' i] at e'
        exact .inr (by cases h : h2 i <;> simp_all)

instance : Std.Associative (α := HP) (· * ·) := ⟨sep_assoc⟩
instance : Std.Commutative (α := HP) (· * ·) := ⟨sep_comm⟩

theorem sep_left (A B C : HP) : A * (B * C) = B * (A * C) := by rw [← sep_assoc, sep_comm A B, sep_assoc]

theorem emp_mul (A : HP) : emp * A = A := by
  refine hp_ext fun h => ⟨?_, fun a => ⟨fun _ => none, h, fun _ => .inl rfl, fun b => by simp, fun _ => rfl, a⟩⟩
  rintro ⟨h1, h2, hd, hu, e, a⟩
  have : h = h2 := funext fun b => by rw [hu b, e b]; simp
  rw [this]; exact a
theorem mul_emp (A : HP) : A * emp = A := by rw [sep_comm, emp_mul]

theorem ex_mul {α : Type} (A : α → HP) (R : HP) : ex A * R = ex fun x => A x * R := by
  refine hp_ext fun h => ⟨?_, ?_⟩
  · rintro ⟨h1, h2, hd, hu, ⟨x, a⟩, r⟩; exact ⟨x, h1, h2, hd, hu, a, r⟩
  · rintro ⟨x, h1, h2, hd, hu, a, r⟩; exact ⟨h1, h2, hd, hu, ⟨x, a⟩, r⟩
theorem mul_ex {α : Type} (A : α → HP) (R : HP) : R * ex A = ex fun x => R * A x := by
  rw [sep_comm, ex_mul]; congr 1; funext x; exact sep_comm _ _
theorem wh_mul (p : Prop) (A R : HP) : wh p A * R = wh p (A * R) := by
  refine hp_ext fun h => ⟨?_, ?_⟩
  · rintro ⟨h1, h2, hd, hu, ⟨x, a⟩, r⟩; exact ⟨x, h1, h2, hd, hu, a, r⟩
  · rintro ⟨x, h1, h2, hd, hu, a, r⟩; exact ⟨h1, h2, hd, hu, ⟨x, a⟩, r⟩
theorem mul_wh (p : Prop) (A R : HP) : R * wh p A = wh p (R * A) := by rw [sep_comm, wh_mul, sep_comm]

/-- What the world w holds, w0 being where the whole began. -/
structure Sat (w0 w : World) (A : HP) : Prop where
  os : w.os = w0.os
  tape : w.tape = w0.tape
  output : w.output = w0.output
  size : w0.heap.size ≤ w.heap.size
  has : ∃ h : PHeap, A h ∧ ∀ b o, h b = some o → w.heap[b]? = some o

section
variable {w0 w w' : World} {A B C R : HP} {b : Nat} {o : Obj}

theorem Sat.cong (S : Sat w0 w A) (h : A = B) : Sat w0 w B := h ▸ S
theorem Sat.ex {α : Type} {A : α → HP} (S : Sat w0 w (ex A)) : ∃ x, Sat w0 w (A x) := by
  obtain ⟨a, b, c, d, h, ⟨x, hx⟩, hw⟩ := S
  exact ⟨x, a, b, c, d, h, hx, hw⟩
theorem Sat.ex1 {α : Type} {A : α → HP} (S : Sat w0 w (Sl.ex A * R)) : ∃ x, Sat w0 w (A x * R) := by rw [ex_mul] at S; exact S.ex
theorem Sat.mk_ex {α : Type} {A : α → HP} (x : α) (S : Sat w0 w (A x)) : Sat w0 w (Sl.ex A) := by
  obtain ⟨a, b, c, d, h, hx, hw⟩ := S
  exact ⟨a, b, c, d, h, ⟨x, hx⟩, hw⟩
theorem Sat.mk_ex1 {α : Type} {A : α → HP} (x : α) (S : Sat w0 w (A x * R)) : Sat w0 w (Sl.ex A * R) := by rw [ex_mul]; exact S.mk_ex x
theorem Sat.wh {p : Prop} (S : Sat w0 w (wh p A)) : p ∧ Sat w0 w A := by
  obtain ⟨a, b, c, d, h, ⟨x, hx⟩, hw⟩ := S
  exact ⟨x, a, b, c, d, h, hx, hw⟩
theorem Sat.wh1 {p : Prop} (S : Sat w0 w (Sl.wh p A * R)) : p ∧ Sat w0 w (A * R) := by rw [wh_mul] at S; exact S.wh
theorem Sat.mk_wh {p : Prop} (hp : p) (S : Sat w0 w A) : Sat w0 w (Sl.wh p A) := by
  obtain ⟨a, b, c, d, h, hx, hw⟩ := S
  exact ⟨a, b, c, d, h, ⟨hp, hx⟩, hw⟩
theorem Sat.mk_wh1 {p : Prop} (hp : p) (S : Sat w0 w (A * R)) : Sat w0 w (Sl.wh p A * R) := by rw [wh_mul]; exact S.mk_wh hp
theorem Sat.drop1 (S : Sat w0 w (A * B)) : Sat w0 w B := by
  obtain ⟨a, b, c, d, h, ⟨h1, h2, hd, hu, x, y⟩, hw⟩ := S
  refine ⟨a, b, c, d, h2, y, fun b o e => hw b o ?_⟩
  rw [hu b]
  rcases hd b with e' | e'
  · simp [e', e]
  · rw [e'] at e; cases e
theorem Sat.take1 (S : Sat w0 w (A * B)) : Sat w0 w A := by rw [sep_comm] at S; exact S.drop1
/-- A part of memory is said in other words. -/
theorem Sat.mono1 (S : Sat w0 w (A * R)) (h : ∀ x, A x → B x) : Sat w0 w (B * R) := by
  obtain ⟨a, b, c, d, g, ⟨h1, h2, hd, hu, x, y⟩, hw⟩ := S
  exact ⟨a, b, c, d, g, ⟨h1, h2, hd, hu, h _ x, y⟩, hw⟩
theorem Sat.env (S : Sat w0 w A) (h1 : w'.os = w.os) (h2 : w'.tape = w.tape) (h3 : w'.output = w.output) (h4 : w.heap.size ≤ w'.heap.size)
    (h5 : ∃ h, B h ∧ ∀ b o, h b = some o → w'.heap[b]? = some o) : Sat w0 w' B :=
  ⟨h1.trans S.os, h2.trans S.tape, h3.trans S.output, Nat.le_trans S.size h4, h5⟩

theorem Sat.p2 {A1 A2 : HP} (S : Sat w0 w (A1 * (A2 * R))) : Sat w0 w (A2 * (A1 * R)) := S.cong (by ac_rfl)
theorem Sat.p3 {A1 A2 A3 : HP} (S : Sat w0 w (A1 * (A2 * (A3 * R)))) : Sat w0 w (A3 * (A1 * (A2 * R))) := S.cong (by ac_rfl)
theorem Sat.p4 {A1 A2 A3 A4 : HP} (S : Sat w0 w (A1 * (A2 * (A3 * (A4 * R))))) : Sat w0 w (A4 * (A1 * (A2 * (A3 * R)))) := S.cong (by ac_rfl)
theorem Sat.p5 {A1 A2 A3 A4 A5 : HP} (S : Sat w0 w (A1 * (A2 * (A3 * (A4 * (A5 * R)))))) : Sat w0 w (A5 * (A1 * (A2 * (A3 * (A4 * R))))) := S.cong (by ac_rfl)
theorem Sat.p6 {A1 A2 A3 A4 A5 A6 : HP} (S : Sat w0 w (A1 * (A2 * (A3 * (A4 * (A5 * (A6 * R))))))) : Sat w0 w (A6 * (A1 * (A2 * (A3 * (A4 * (A5 * R)))))) := S.cong (by ac_rfl)

theorem Sat.p2' {A1 A2 : HP} (S : Sat w0 w (A1 * A2)) : Sat w0 w (A2 * A1) := S.cong (by ac_rfl)
theorem Sat.p3' {A1 A2 A3 : HP} (S : Sat w0 w (A1 * (A2 * A3))) : Sat w0 w (A3 * (A1 * A2)) := S.cong (by ac_rfl)
theorem Sat.p4' {A1 A2 A3 A4 : HP} (S : Sat w0 w (A1 * (A2 * (A3 * A4)))) : Sat w0 w (A4 * (A1 * (A2 * A3))) := S.cong (by ac_rfl)
theorem Sat.blk (S : Sat w0 w (pts b o * R)) : w.heap[b]? = some o := by
  obtain ⟨_, _, _, _, h, ⟨h1, h2, hd, hu, rfl, y⟩, hw⟩ := S
  exact hw b o (by rw [hu b]; simp)
theorem Sat.blk1 (S : Sat w0 w (pts b o)) : w.heap[b]? = some o := by
  obtain ⟨_, _, _, _, h, rfl, hw⟩ := S
  exact hw b o (by simp)
theorem Sat.lt (S : Sat w0 w (pts b o * R)) : b < w.heap.size := (Array.getElem?_eq_some_iff.1 S.blk).1
theorem Sat.ne {b' : Nat} {o' : Obj} (S : Sat w0 w (pts b o * (pts b' o' * R))) : b ≠ b' := by
  obtain ⟨_, _, _, _, h, ⟨h1, h2, hd, hu, rfl, h3, h4, hd', hu', rfl, y⟩, hw⟩ := S
  intro e
  have := hd b
  rw [hu' b] at this
  simp [e] at this
theorem Sat.old (S : Sat w0 w (Sl.old w0 * R)) : Below w0.heap.size w0 w := by
  obtain ⟨a, b, c, d, h, ⟨h1, h2, hd, hu, x, y⟩, hw⟩ := S
  refine ⟨a, b, c, d, fun k hk => ?_⟩
  obtain ⟨v, hv⟩ : ∃ v, w0.heap[k]? = some v := ⟨_, Array.getElem?_eq_getElem hk⟩
  rw [hw k v (by rw [hu k, x k, hv]; simp), hv]
theorem Sat.ge (S : Sat w0 w (pts b o * (Sl.old w0 * R))) : w0.heap.size ≤ b := by
  obtain ⟨_, _, _, _, h, ⟨h1, h2, hd, hu, rfl, h3, h4, hd', hu', x, y⟩, hw⟩ := S
  rcases Nat.lt_or_ge b w0.heap.size with hlt | hge
  · have := hd b
    rw [hu' b, x b, Array.getElem?_eq_getElem hlt] at this
    simp at this
  · exact hge
theorem Sat.start (w : World) : Sat w w (Sl.old w) := ⟨rfl, rfl, rfl, Nat.le_refl _, fun b => w.heap[b]?, fun _ => rfl, fun _ _ h => h⟩

theorem Sat.old1 (S : Sat w0 w (Sl.old w0)) : Below w0.heap.size w0 w := Sat.old (R := emp) (by rw [mul_emp]; exact S)
/-- Nothing that lay in w has turned. -/
theorem Sat.below (S : Sat w0 w A) (h : Below w.heap.size w w') : Sat w0 w' A := by
  obtain ⟨g, hg, hw⟩ := S.has
  exact S.env h.os h.tape h.output h.size ⟨g, hg, fun b o e => (h.block b (Array.getElem?_eq_some_iff.1 (hw b o e)).1).trans (hw b o e)⟩
theorem Sat.drew (S : Sat w0 w A) : Sat w0 w.drew A := S.below (Below.refl _ _).drew
theorem Sat.alloc (S : Sat w0 w A) (o : Obj) : Sat w0 (w.alloc o) (pts w.heap.size o * A) := by
  obtain ⟨h, x, hw⟩ := S.has
  refine S.env rfl rfl rfl (by simp) ⟨fun i => if i = w.heap.size then some o else h i, ⟨fun i => if i = w.heap.size then some o else none, h, fun i => ?_, fun i => ?_, rfl, x⟩, fun i u e => ?_⟩
  · by_cases e : i = w.heap.size
    · right
      cases hi : h i with
      | none => rfl
      | some u => exact absurd (Array.getElem?_eq_some_iff.1 (hw i u hi)).1 (by omega)
    · left; simp [e]
  · by_cases e : i = w.heap.size <;> simp [e]
  · by_cases e' : i = w.heap.size
    · simp [e'] at e
      subst e
      rw [e']
      show (w.heap.push _)[w.heap.size]? = _
      simp
    · simp [e'] at e
      have := hw i u e
      rw [Below.heap_alloc _ _ _ (Array.getElem?_eq_some_iff.1 this).1]
      exact this
/-- Block b turns, and no other one. -/
theorem Sat.put {o' : Obj} (S : Sat w0 w (pts b o * R)) (h1 : w'.os = w.os) (h2 : w'.tape = w.tape) (h3 : w'.output = w.output) (h4 : w.heap.size ≤ w'.heap.size)
    (h5 : w'.heap[b]? = some o') (h6 : ∀ i, i < w.heap.size → i ≠ b → w'.heap[i]? = w.heap[i]?) : Sat w0 w' (pts b o' * R) := by
  obtain ⟨h, ⟨g1, g2, hd, hu, rfl, y⟩, hw⟩ := S.has
  refine S.env h1 h2 h3 h4 ⟨fun i => if i = b then some o' else g2 i, ⟨fun i => if i = b then some o' else none, g2, fun i => ?_, fun i => ?_, rfl, y⟩, fun i u e => ?_⟩
  · by_cases e : i = b
    · right; have := hd i; simp [e] at this ⊢; exact this
    · left; simp [e]
  · by_cases e : i = b <;> simp [e]
  · by_cases e' : i = b
    · simp [e'] at e; subst e; rw [e']; exact h5
    · simp [e'] at e
      have := hw i u (by rw [hu i]; simp [e', e])
      rw [h6 i (Array.getElem?_eq_some_iff.1 this).1 e']
      exact this
theorem Sat.setCell {c : Array Value} {t : TypeId} {fr : Nat × Nat} {i : Nat} (S : Sat w0 w (pts b (.cells c t fr) * R)) (v : Value) :
    Sat w0 (w.setCell ⟨b, i, none⟩ v) (pts b (.cells (c.setIfInBounds i v) t fr) * R) := by
  obtain ⟨hlt, hb⟩ := Array.getElem?_eq_some_iff.1 S.blk
  refine S.put rfl rfl rfl (by simp [World.setCell]) ?_ (fun k _ hk => Below.heap_setCell _ _ _ _ hk)
  show (w.heap.modify b _)[b]? = _
  rw [Array.getElem?_eq_getElem (by rw [Array.size_modify]; exact hlt), Array.getElem_modify_self, hb]
  rfl
theorem Sat.putObj {o' : Obj} (S : Sat w0 w (pts b o * R)) : Sat w0 { w with heap := w.heap.setIfInBounds b o' } (pts b o' * R) := by
  have hlt := S.lt
  refine S.put rfl rfl rfl (by simp) ?_ (fun k _ hk => ?_)
  · simp [hlt]
  · show (w.heap.setIfInBounds b o')[k]? = _
    rw [Array.getElem?_setIfInBounds_ne (fun e => hk e.symm)]
end

/-! ### cells of a block -/
section
variable {w : World} {b : Nat} {c : Array Value} {t : TypeId} {fr : Nat × Nat} {v : Value}
theorem cell_of (h : w.heap[b]? = some (.cells c t fr)) (i : Nat) (hi : c[i]? = some v) : w.cell? ⟨b, i, none⟩ = some v := by simp [World.cell?, h, hi]
theorem frz_of (h : w.heap[b]? = some (.cells c t (0, 0))) (i : Nat) : w.frozen? ⟨b, i, none⟩ = false := by simp [World.frozen?, h]
end

section
variable {w : World} {b : Nat} {t : TypeId} {x0 x1 x2 x3 x4 x5 x6 x7 : Value}
theorem blk1 (h : w.heap[b]? = some (.cells #[x0] t (0, 0))) : w.cell? ⟨b, 0, none⟩ = some x0 ∧ ∀ i, w.frozen? ⟨b, i, none⟩ = false := ⟨cell_of h 0 rfl, frz_of h⟩
theorem blk2 (h : w.heap[b]? = some (.cells #[x0, x1] t (0, 0))) : w.cell? ⟨b, 0, none⟩ = some x0 ∧ w.cell? ⟨b, 1, none⟩ = some x1 ∧ ∀ i, w.frozen? ⟨b, i, none⟩ = false := ⟨cell_of h 0 rfl, cell_of h 1 rfl, frz_of h⟩
theorem blk3 (h : w.heap[b]? = some (.cells #[x0, x1, x2] t (0, 0))) : w.cell? ⟨b, 0, none⟩ = some x0 ∧ w.cell? ⟨b, 1, none⟩ = some x1 ∧ w.cell? ⟨b, 2, none⟩ = some x2 ∧ ∀ i, w.frozen? ⟨b, i, none⟩ = false := ⟨cell_of h 0 rfl, cell_of h 1 rfl, cell_of h 2 rfl, frz_of h⟩
theorem blk4 (h : w.heap[b]? = some (.cells #[x0, x1, x2, x3] t (0, 0))) : w.cell? ⟨b, 0, none⟩ = some x0 ∧ w.cell? ⟨b, 1, none⟩ = some x1 ∧ w.cell? ⟨b, 2, none⟩ = some x2 ∧ w.cell? ⟨b, 3, none⟩ = some x3 ∧ ∀ i, w.frozen? ⟨b, i, none⟩ = false := ⟨cell_of h 0 rfl, cell_of h 1 rfl, cell_of h 2 rfl, cell_of h 3 rfl, frz_of h⟩
theorem blk5 (h : w.heap[b]? = some (.cells #[x0, x1, x2, x3, x4] t (0, 0))) : w.cell? ⟨b, 0, none⟩ = some x0 ∧ w.cell? ⟨b, 1, none⟩ = some x1 ∧ w.cell? ⟨b, 2, none⟩ = some x2 ∧ w.cell? ⟨b, 3, none⟩ = some x3 ∧ w.cell? ⟨b, 4, none⟩ = some x4 ∧ ∀ i, w.frozen? ⟨b, i, none⟩ = false := ⟨cell_of h 0 rfl, cell_of h 1 rfl, cell_of h 2 rfl, cell_of h 3 rfl, cell_of h 4 rfl, frz_of h⟩
end

/-- The world is forgotten, but for what is said of it. -/
theorem gen_w {w0 w : World} {A : HP} {K : Act → World → Prop} {a : Act} (S : Sat w0 w A) (k : ∀ w', Sat w0 w' A → K a w') : K a w := k w S

section
variable {P : Program} (w : World)
theorem run_neq_ptr_same {tp te : TypeId} {j : TypeInfo} (a : Addr) (hp : P.underlying tp = some (.pointer te)) (hte : P.info? te = some j) :
    (binOp .neq tp (.pointer (some a)) (.pointer (some a))).run P w = .ok (.bool false) w := by
  have h : ∀ d : Nat, (Op.equalIn (d + 1) tp (.pointer (some a)) (.pointer (some a))).run P w = .ok true w := fun d => by
    simp [Op.equalIn, run_underlying hp, sizeOf, typeInfo, hte, run_sameAddr_same]
  simp only [binOp]
  simp [Op.equal, Op.maxDepth, h 9999]
theorem run_neq_ptr_other {tp te : TypeId} {j : TypeInfo} {a b : Addr} {ca cb : Array Value} {ta tb : TypeId} (hp : P.underlying tp = some (.pointer te)) (hte : P.info? te = some j) (hsz : j.size ≠ 0)
    (hne : a ≠ b) (ha : w.heap[a.block]? = some (.cells ca ta (0, 0))) (hb : w.heap[b.block]? = some (.cells cb tb (0, 0))) :
    (binOp .neq tp (.pointer (some a)) (.pointer (some b))).run P w = .ok (.bool true) w := by
  have h : ∀ d : Nat, (Op.equalIn (d + 1) tp (.pointer (some a)) (.pointer (some b))).run P w = .ok false w := fun d => by
    simp [Op.equalIn, run_underlying hp, sizeOf, typeInfo, hte, hsz, run_sameAddr_other w hne ha hb]
  simp only [binOp]
  simp [Op.equal, Op.maxDepth, h 9999]
end

/-! ### a list of assertions -/
def star : List HP → HP
  | [] => emp
  | A :: l => A * star l
@[simp] theorem star_nil : star [] = emp := rfl
theorem star_cons (A : HP) (l : List HP) : star (A :: l) = A * star l := rfl
theorem star_append : ∀ l m : List HP, star (l ++ m) = star l * star m
  | [], m => by simp [star, emp_mul]
  | A :: l, m => by simp only [List.cons_append, star, star_append l m]; ac_rfl
theorem star_perm {l m : List HP} (h : l.Perm m) : star l = star m := by
  induction h with
  | nil => rfl
  | cons A _ ih => simp only [star, ih]
  | swap A B l => simp only [star]; ac_rfl
  | trans _ _ h1 h2 => exact h1.trans h2
end Go.Sl
/-! ### Ring -/
namespace Go.Sl
open Go.RowKit
set_option linter.unusedVariables false

abbrev pt (b : Nat) : Value := .pointer (some ⟨b, 0, none⟩)
abbrev KN := Nat × ByteArray
/-- The block of a list's first node, or d. -/
def hdb (ys : List KN) (d : Nat) : Nat := match ys with | [] => d | y :: _ => y.1
/-- The block of a list's last node, or d. -/
def lsb : List KN → Nat → Nat
  | [], d => d
  | y :: ys, _ => lsb ys y.1
def nd (T b : Nat) (k : ByteArray) (p n : Nat) : HP := pts b (.cells #[.string k, pt p, pt n] T (0, 0))
/-- Nodes one behind the other: the first one's elder is p, the last one's next is n. -/
def chain (T : Nat) : Nat → List KN → Nat → HP
  | _, [], _ => emp
  | p, y :: ys, n => nd T y.1 y.2 p (hdb ys n) * chain T y.1 ys n

@[simp] theorem lsb_nil (d : Nat) : lsb [] d = d := rfl
@[simp] theorem lsb_cons (y : KN) (ys : List KN) (d : Nat) : lsb (y :: ys) d = lsb ys y.1 := rfl
@[simp] theorem hdb_nil (d : Nat) : hdb [] d = d := rfl
@[simp] theorem hdb_cons (y : KN) (ys : List KN) (d : Nat) : hdb (y :: ys) d = y.1 := rfl
theorem lsb_append : ∀ (ys zs : List KN) (d : Nat), lsb (ys ++ zs) d = lsb zs (lsb ys d)
  | [], _, _ => rfl
  | y :: ys, zs, d => lsb_append ys zs y.1
theorem hdb_append (ys zs : List KN) (d : Nat) : hdb (ys ++ zs) d = hdb ys (hdb zs d) := by cases ys <;> rfl

theorem chain_append (T : Nat) : ∀ (p : Nat) (ys zs : List KN) (n : Nat), chain T p (ys ++ zs) n = chain T p ys (hdb zs n) * chain T (lsb ys p) zs n
  | p, [], zs, n => by simp [chain, emp_mul]
  | p, y :: ys, zs, n => by
    simp only [List.cons_append, chain, chain_append T y.1 ys zs n, lsb_cons, hdb_append]
    ac_rfl

section
variable {w0 w : World} {T p n q : Nat} {R : HP}
/-- The last one's next is set. -/
theorem Sat.chain_next : ∀ {ys : List KN} {p : Nat} {R : HP}, ys ≠ [] → Sat w0 w (chain T p ys n * R) → ∀ d,
    w.cell? ⟨lsb ys d, 2, none⟩ = some (pt n) ∧ (∀ i, w.frozen? ⟨lsb ys d, i, none⟩ = false) ∧ ∀ n', Sat w0 (w.setCell ⟨lsb ys d, 2, none⟩ (pt n')) (chain T p ys n' * R)
  | [], _, _, h, _ => absurd rfl h
  | [y], p, R, _, S => fun d => by
    simp only [chain, hdb_nil, mul_emp] at S
    exact ⟨cell_of S.blk 2 rfl, frz_of S.blk, fun n' => by simp only [chain, hdb_nil, mul_emp]; exact S.setCell _⟩
  | y :: z :: ys, p, R, _, S => fun d => by
    rw [chain] at S
    have S1 : Sat w0 w (chain T y.1 (z :: ys) n * (nd T y.1 y.2 p (hdb (z :: ys) n) * R)) := S.cong (by ac_rfl)
    obtain ⟨a, b, c⟩ := Sat.chain_next (by simp) S1 y.1
    refine ⟨a, b, fun n' => ?_⟩
    rw [chain]
    exact (c n').cong (by simp only [hdb_cons]; ac_rfl)
/-- The first one's elder is set. -/
theorem Sat.chain_older {y : KN} {ys : List KN} (S : Sat w0 w (chain T p (y :: ys) n * R)) :
    w.cell? ⟨y.1, 1, none⟩ = some (pt p) ∧ (∀ i, w.frozen? ⟨y.1, i, none⟩ = false) ∧ ∀ p', Sat w0 (w.setCell ⟨y.1, 1, none⟩ (pt p')) (chain T p' (y :: ys) n * R) := by
  rw [chain, sep_assoc] at S
  refine ⟨cell_of S.blk 1 rfl, frz_of S.blk, fun p' => ?_⟩
  rw [chain, sep_assoc]
  exact S.setCell _
theorem Sat.chain_first {y : KN} {ys : List KN} (S : Sat w0 w (chain T p (y :: ys) n * R)) :
    w.cell? ⟨y.1, 0, none⟩ = some (.string y.2) ∧ w.cell? ⟨y.1, 1, none⟩ = some (pt p) ∧ w.cell? ⟨y.1, 2, none⟩ = some (pt (hdb ys n)) := by
  rw [chain, sep_assoc] at S
  exact ⟨cell_of S.blk 0 rfl, cell_of S.blk 1 rfl, cell_of S.blk 2 rfl⟩
theorem Sat.chain_apart : ∀ {ys : List KN} {p b : Nat} {o : Obj} {R : HP}, Sat w0 w (pts b o * (chain T p ys n * R)) → ∀ y ∈ ys, y.1 ≠ b
  | [], _, _, _, _, _ => by simp
  | z :: ys, p, b, o, R, S => by
    rw [chain, sep_assoc] at S
    intro y hy
    rcases List.mem_cons.1 hy with rfl | hy
    · exact (S.ne).symm
    · refine Sat.chain_apart (p := z.1) (R := nd T z.1 z.2 p (hdb ys n) * R) (o := o) ?_ y hy
      exact S.cong (by ac_rfl)
end

theorem Sat.chain_blk {w0 w : World} {T n : Nat} : ∀ {ys : List KN} {p : Nat} {R : HP}, Sat w0 w (chain T p ys n * R) → ∀ y ∈ ys, ∃ c, w.heap[y.1]? = some (.cells c T (0, 0))
  | [], _, _, _ => by simp
  | z :: ys, p, R, S => by
    rw [chain] at S
    intro y hy
    rcases List.mem_cons.1 hy with rfl | hy
    · rw [sep_assoc] at S; exact ⟨_, S.blk⟩
    · exact Sat.chain_blk (p := z.1) (R := nd T z.1 z.2 p (hdb ys n) * R) (S.cong (by ac_rfl)) y hy

/-- A ring: e, a node of no key, and ys. -/
def ring (T e : Nat) (ys : List KN) : HP := chain T (lsb ys e) ((e, ⟨#[]⟩) :: ys) e
theorem ring_eq (T e : Nat) (ys : List KN) : ring T e ys = nd T e ⟨#[]⟩ (lsb ys e) (hdb ys e) * chain T e ys e := rfl
theorem ring_split (T e x : Nat) (k : ByteArray) (pre post : List KN) :
    ring T e (pre ++ (x, k) :: post) = chain T (lsb post x) ((e, ⟨#[]⟩) :: pre) x * (nd T x k (lsb pre e) (hdb post e) * chain T x post e) := by
  unfold ring
  rw [← List.cons_append, chain_append, lsb_append]
  rfl

section
variable {w0 w : World} {T e x : Nat} {k : ByteArray} {pre post ys : List KN} {R : HP}
/-- A node is taken out: what is read, and what lies behind the two stores. -/
theorem Sat.ring_cut (S : Sat w0 w (ring T e (pre ++ (x, k) :: post) * R)) :
    w.cell? ⟨x, 0, none⟩ = some (.string k) ∧ w.cell? ⟨x, 1, none⟩ = some (pt (lsb pre e)) ∧ w.cell? ⟨x, 2, none⟩ = some (pt (hdb post e)) ∧
    w.cell? ⟨lsb pre e, 2, none⟩ = some (pt x) ∧ (∀ i, w.frozen? ⟨lsb pre e, i, none⟩ = false) ∧
    (∃ v, w.cell? ⟨hdb post e, 1, none⟩ = some (pt v)) ∧ (∀ i, w.frozen? ⟨hdb post e, i, none⟩ = false) ∧
    Sat w0 ((w.setCell ⟨lsb pre e, 2, none⟩ (pt (hdb post e))).setCell ⟨hdb post e, 1, none⟩ (pt (lsb pre e))) (nd T x k (lsb pre e) (hdb post e) * (ring T e (pre ++ post) * R)) := by
  rw [ring_split] at S
  have Sx : Sat w0 w (nd T x k (lsb pre e) (hdb post e) * (chain T (lsb post x) ((e, ⟨#[]⟩) :: pre) x * (chain T x post e * R))) := S.cong (by ac_rfl)
  have Sa : Sat w0 w (chain T (lsb post x) ((e, ⟨#[]⟩) :: pre) x * (nd T x k (lsb pre e) (hdb post e) * (chain T x post e * R))) := S.cong (by ac_rfl)
  obtain ⟨n1, n2, n3⟩ := Sa.chain_next (by simp) 0
  have S1 := n3 (hdb post e)
  simp only [lsb_cons] at n1 n2 S1
  refine ⟨cell_of Sx.blk 0 rfl, cell_of Sx.blk 1 rfl, cell_of Sx.blk 2 rfl, n1, n2, ?_⟩
  cases post with
  | nil =>
    have So : Sat w0 w (chain T (lsb [] x) ((e, ⟨#[]⟩) :: pre) x * (nd T x k (lsb pre e) (hdb [] e) * (chain T x [] e * R))) := Sa
    obtain ⟨o1, o2, _⟩ := So.chain_older
    obtain ⟨_, _, o3⟩ := S1.chain_older
    refine ⟨⟨_, o1⟩, o2, ?_⟩
    rw [List.append_nil]
    have := o3 (lsb pre e)
    simp only [chain, emp_mul, hdb_nil] at this ⊢
    exact this.cong (by rw [ring_eq]; ac_rfl)
  | cons y post =>
    have So : Sat w0 w (chain T x (y :: post) e * (chain T (lsb (y :: post) x) ((e, ⟨#[]⟩) :: pre) x * (nd T x k (lsb pre e) (hdb (y :: post) e) * R))) := Sa.cong (by ac_rfl)
    obtain ⟨o1, o2, _⟩ := So.chain_older
    have S2 : Sat w0 _ (chain T x (y :: post) e * (chain T (lsb (y :: post) x) ((e, ⟨#[]⟩) :: pre) (hdb (y :: post) e) * (nd T x k (lsb pre e) (hdb (y :: post) e) * R))) := S1.cong (by ac_rfl)
    obtain ⟨_, _, o3⟩ := S2.chain_older
    refine ⟨⟨_, o1⟩, o2, ?_⟩
    have := o3 (lsb pre e)
    refine this.cong ?_
    unfold ring
    rw [← List.cons_append, chain_append, lsb_append]
    simp only [lsb_cons, hdb_cons]
    ac_rfl
/-- A node is put at the end: two stores behind its own. -/
theorem Sat.ring_put (S : Sat w0 w (nd T x k (lsb ys e) e * (ring T e ys * R))) :
    w.cell? ⟨e, 1, none⟩ = some (pt (lsb ys e)) ∧ (∀ i, w.frozen? ⟨e, i, none⟩ = false) ∧ w.cell? ⟨lsb ys e, 2, none⟩ = some (pt e) ∧ (∀ i, w.frozen? ⟨lsb ys e, i, none⟩ = false) ∧
    Sat w0 ((w.setCell ⟨lsb ys e, 2, none⟩ (pt x)).setCell ⟨e, 1, none⟩ (pt x)) (ring T e (ys ++ [(x, k)]) * R) := by
  have S1 : Sat w0 w (chain T (lsb ys e) ((e, ⟨#[]⟩) :: ys) e * (nd T x k (lsb ys e) e * R)) := S.cong (by unfold ring; ac_rfl)
  obtain ⟨o1, o2, _⟩ := S1.chain_older
  obtain ⟨n1, n2, n3⟩ := S1.chain_next (by simp) 0
  simp only [lsb_cons] at n1 n2 n3
  refine ⟨o1, o2, n1, n2, ?_⟩
  obtain ⟨_, _, o3⟩ := (n3 x).chain_older
  refine (o3 x).cong ?_
  unfold ring
  rw [← List.cons_append, chain_append, lsb_append]
  simp only [lsb_cons, hdb_cons, lsb_nil, chain, hdb_nil, mul_emp]
  ac_rfl
theorem Sat.ring_end (S : Sat w0 w (ring T e ys * R)) : w.cell? ⟨e, 1, none⟩ = some (pt (lsb ys e)) ∧ w.cell? ⟨e, 2, none⟩ = some (pt (hdb ys e)) ∧ ∀ i, w.frozen? ⟨e, i, none⟩ = false := by
  have S1 : Sat w0 w (chain T (lsb ys e) ((e, ⟨#[]⟩) :: ys) e * R) := S
  exact ⟨S1.chain_first.2.1, S1.chain_first.2.2, S1.chain_older.2.1⟩
theorem Sat.ring_apart (S : Sat w0 w (ring T e ys * R)) : ∀ y ∈ ys, y.1 ≠ e := by
  rw [ring_eq, sep_assoc] at S
  exact S.chain_apart
theorem Sat.ring_blk (S : Sat w0 w (ring T e ys * R)) : (∃ c, w.heap[e]? = some (.cells c T (0, 0))) ∧ ∀ y ∈ ys, ∃ c, w.heap[y.1]? = some (.cells c T (0, 0)) := by
  have S1 : Sat w0 w (chain T (lsb ys e) ((e, ⟨#[]⟩) :: ys) e * R) := S
  exact ⟨S1.chain_blk (e, ⟨#[]⟩) (by simp), fun y hy => S1.chain_blk y (by simp [hy])⟩
/-- A node in the middle, read. -/
theorem Sat.ring_at (S : Sat w0 w (ring T e (pre ++ (x, k) :: post) * R)) : w.cell? ⟨x, 0, none⟩ = some (.string k) ∧ w.cell? ⟨x, 1, none⟩ = some (pt (lsb pre e)) ∧ w.cell? ⟨x, 2, none⟩ = some (pt (hdb post e)) ∧ ∀ i, w.frozen? ⟨x, i, none⟩ = false := by
  rw [ring_split] at S
  have Sx : Sat w0 w (nd T x k (lsb pre e) (hdb post e) * (chain T (lsb post x) ((e, ⟨#[]⟩) :: pre) x * (chain T x post e * R))) := S.cong (by ac_rfl)
  exact ⟨cell_of Sx.blk 0 rfl, cell_of Sx.blk 1 rfl, cell_of Sx.blk 2 rfl, frz_of Sx.blk⟩
end
end Go.Sl
/-! ### Di -/
namespace Go.Sl
open Go.RowKit
set_option linter.unusedVariables false
set_option linter.unusedSimpArgs false

theorem baInj_iff {a b : ByteArray} : a.toList = b.toList ↔ a = b := by
  refine ⟨fun h => ?_, fun h => by rw [h]⟩
  rw [ByteArray.toList_eq, ByteArray.toList_eq] at h
  cases a; cases b
  simp only [ByteArray.mk.injEq]
  exact Array.toList_inj.1 h
theorem baInj {a b : ByteArray} (h : a.toList = b.toList) : a = b := baInj_iff.1 h
/-- A node of a chain: where it lies, its key, its value. -/
structure DN where
  b : Nat
  k : ByteArray
  v : Value
/-- Where a list of nodes begins; else nx. -/
def hdo (xs : List DN) (nx : Value) : Value := match xs with | [] => nx | x :: _ => pt x.b
@[simp] theorem hdo_nil (nx : Value) : hdo [] nx = nx := rfl
@[simp] theorem hdo_cons (x : DN) (xs : List DN) (nx : Value) : hdo (x :: xs) nx = pt x.b := rfl
theorem hdo_append (xs ys : List DN) (nx : Value) : hdo (xs ++ ys) nx = hdo xs (hdo ys nx) := by cases xs <;> rfl
abbrev hd0 (xs : List DN) : Value := hdo xs (.pointer none)
theorem hd0_ptr (l : List DN) : ∃ p, hd0 l = .pointer p := by cases l <;> exact ⟨_, rfl⟩
def dnode (T : Nat) (x : DN) (nx : Value) : HP := pts x.b (.cells #[.string x.k, x.v, nx] T (0, 0))
/-- Nodes one behind the other; the last one's next is nx. -/
def dseg (T : Nat) : List DN → Value → HP
  | [], _ => emp
  | x :: xs, nx => dnode T x (hdo xs nx) * dseg T xs nx
@[simp] theorem dseg_nil (T : Nat) (nx : Value) : dseg T [] nx = emp := rfl
theorem dseg_cons (T : Nat) (x : DN) (xs : List DN) (nx : Value) : dseg T (x :: xs) nx = dnode T x (hdo xs nx) * dseg T xs nx := rfl
theorem dseg_append (T : Nat) : ∀ (xs ys : List DN) (nx : Value), dseg T (xs ++ ys) nx = dseg T xs (hdo ys nx) * dseg T ys nx
  | [], ys, nx => by simp [emp_mul]
  | x :: xs, ys, nx => by rw [List.cons_append, dseg_cons, dseg_append T xs ys nx, dseg_cons, hdo_append]; ac_rfl
/-- The address of what leads to the node behind pre, in a chain that begins at a. -/
def lnk (a : Addr) : List DN → Addr
  | [] => a
  | x :: xs => lnk ⟨x.b, 2, none⟩ xs
@[simp] theorem lnk_nil (a : Addr) : lnk a [] = a := rfl
theorem lnk_snoc (a : Addr) : ∀ (pre : List DN) (x : DN), lnk a (pre ++ [x]) = ⟨x.b, 2, none⟩
  | [], _ => rfl
  | y :: ys, x => lnk_snoc ⟨y.b, 2, none⟩ ys x

theorem perm_at {α : Type} {l : List α} {i : Nat} (h : i < l.length) : l.Perm (l[i] :: l.eraseIdx i) := by
  rw [List.eraseIdx_eq_take_drop_succ]
  refine List.Perm.trans ?_ List.perm_middle
  rw [← List.drop_eq_getElem_cons h, List.take_append_drop]
theorem star_at {α : Type} (F : α → HP) {l : List α} {i : Nat} (h : i < l.length) : star (l.map F) = F l[i] * star ((l.eraseIdx i).map F) := by
  rw [← star_cons, ← List.map_cons]
  exact star_perm ((perm_at h).map F)
theorem star_set {α : Type} (F : α → HP) {l : List α} {i : Nat} (h : i < l.length) (x : α) : star ((l.set i x).map F) = F x * star ((l.eraseIdx i).map F) := by
  rw [star_at F (by rw [List.length_set]; exact h : i < (l.set i x).length), List.getElem_set_self, List.eraseIdx_set_eq]

/-- Places at g, each with its chain. -/
def plc (T Tp g : Nat) (ch : List (List DN)) : HP := pts g (.cells (ch.map hd0).toArray Tp (0, 0)) * star (ch.map fun c => dseg T c (.pointer none))
/-- All but the chain of a place. -/
def plr (T Tp g : Nat) (ch : List (List DN)) (i : Nat) (u : Value) : HP := pts g (.cells ((ch.map hd0).set i u).toArray Tp (0, 0)) * star ((ch.eraseIdx i).map fun c => dseg T c (.pointer none))
theorem plc_at (T Tp g : Nat) {ch : List (List DN)} {i : Nat} (h : i < ch.length) : plc T Tp g ch = plr T Tp g ch i (hd0 ch[i]) * dseg T ch[i] (.pointer none) := by
  unfold plc plr
  rw [star_at _ h]
  have : (ch.map hd0).set i (hd0 ch[i]) = ch.map hd0 := by
    apply List.ext_getElem?
    intro j
    rw [List.getElem?_set]
    by_cases e : i = j
    · subst e; simp [h]
    · simp [e]
  rw [this]
  ac_rfl
theorem plc_set (T Tp g : Nat) {ch : List (List DN)} {i : Nat} (h : i < ch.length) (c : List DN) : plc T Tp g (ch.set i c) = plr T Tp g ch i (hd0 c) * dseg T c (.pointer none) := by
  unfold plc plr
  rw [star_set _ h, List.map_set]
  ac_rfl
section
variable {w0 w : World} {T Tp g i : Nat} {ch : List (List DN)} {R : HP} {u : Value}
theorem Sat.plr_cell (h : i < ch.length) (S : Sat w0 w (plr T Tp g ch i u * R)) : w.cell? ⟨g, i, none⟩ = some u ∧ (∀ j, w.frozen? ⟨g, j, none⟩ = false) ∧ ∀ u', Sat w0 (w.setCell ⟨g, i, none⟩ u') (plr T Tp g ch i u' * R) := by
  unfold plr at S ⊢
  rw [sep_assoc] at S
  refine ⟨cell_of S.blk i (by simp [h]), frz_of S.blk, fun u' => ?_⟩
  rw [sep_assoc]
  have := S.setCell (i := i) u'
  refine this.cong ?_
  congr 3
  simp
theorem Sat.dnode_cells {x : DN} {nx : Value} (S : Sat w0 w (dnode T x nx * R)) : w.cell? ⟨x.b, 0, none⟩ = some (.string x.k) ∧ w.cell? ⟨x.b, 1, none⟩ = some x.v ∧ w.cell? ⟨x.b, 2, none⟩ = some nx ∧ ∀ j, w.frozen? ⟨x.b, j, none⟩ = false := blk3 S.blk
theorem Sat.dnode_nx {x : DN} {nx : Value} (S : Sat w0 w (dnode T x nx * R)) (nx' : Value) : Sat w0 (w.setCell ⟨x.b, 2, none⟩ nx') (dnode T x nx' * R) := S.setCell _
theorem Sat.dnode_v {x : DN} {nx : Value} (S : Sat w0 w (dnode T x nx * R)) (v' : Value) : Sat w0 (w.setCell ⟨x.b, 1, none⟩ v') (dnode T { x with v := v' } nx * R) := S.setCell _

/-- What leads to the nodes behind pre. -/
theorem Sat.plc_lnk {pre post : List DN} (h : i < ch.length) (e : ch[i] = pre ++ post) (S : Sat w0 w (plc T Tp g ch * R)) :
    w.cell? (lnk ⟨g, i, none⟩ pre) = some (hd0 post) ∧ w.frozen? (lnk ⟨g, i, none⟩ pre) = false ∧
      ∀ c, Sat w0 (w.setCell (lnk ⟨g, i, none⟩ pre) (hd0 c)) (plr T Tp g ch i (hd0 (pre ++ c)) * (dseg T pre (hd0 c) * (dseg T post (.pointer none) * R))) := by
  rw [plc_at _ _ _ h, e, dseg_append, sep_assoc] at S
  rcases List.eq_nil_or_concat pre with rfl | ⟨pre, y, rfl⟩
  · obtain ⟨a, b, c⟩ := S.plr_cell h
    refine ⟨a, b _, fun l => ?_⟩
    simpa [emp_mul] using c (hd0 l)
  · rw [List.concat_eq_append, lnk_snoc, dseg_append, dseg_cons] at *
    have S1 : Sat w0 w (dnode T y (hd0 post) * (plr T Tp g ch i (hd0 (pre ++ [y] ++ post)) * (dseg T pre (pt y.b) * (dseg T post (.pointer none) * R)))) := S.cong (by simp only [dseg_nil, mul_emp, hdo_cons, hdo_nil]; ac_rfl)
    obtain ⟨_, _, a, b⟩ := S1.dnode_cells
    refine ⟨a, b _, fun l => ?_⟩
    have S2 := S1.dnode_nx (hd0 l)
    refine S2.cong ?_
    have e1 : hd0 (pre ++ [y] ++ post) = hd0 (pre ++ [y] ++ l) := by unfold hd0; rw [List.append_assoc, List.append_assoc, hdo_append pre, hdo_append pre]; rfl
    rw [e1, dseg_append, dseg_cons]
    simp only [dseg_nil, mul_emp, hdo_cons, hdo_nil]
    ac_rfl
/-- The node behind pre. -/
theorem Sat.plc_node {pre post : List DN} {x : DN} (h : i < ch.length) (e : ch[i] = pre ++ x :: post) (S : Sat w0 w (plc T Tp g ch * R)) :
    w.cell? ⟨x.b, 0, none⟩ = some (.string x.k) ∧ w.cell? ⟨x.b, 1, none⟩ = some x.v ∧ w.cell? ⟨x.b, 2, none⟩ = some (hd0 post) ∧ ∀ j, w.frozen? ⟨x.b, j, none⟩ = false := by
  rw [plc_at _ _ _ h, e, dseg_append, dseg_cons] at S
  exact Sat.dnode_cells (T := T) (R := plr T Tp g ch i (hd0 (pre ++ x :: post)) * (dseg T pre (hd0 (x :: post)) * (dseg T post (.pointer none) * R))) (S.cong (by ac_rfl))
/-- A node is taken out. -/
theorem Sat.plc_unlink {pre post : List DN} {x : DN} (h : i < ch.length) (e : ch[i] = pre ++ x :: post) (S : Sat w0 w (plc T Tp g ch * R)) :
    Sat w0 (w.setCell (lnk ⟨g, i, none⟩ pre) (hd0 post)) (plc T Tp g (ch.set i (pre ++ post)) * (dnode T x (hd0 post) * R)) := by
  have := (S.plc_lnk h e).2.2 post
  refine this.cong ?_
  rw [plc_set _ _ _ h, dseg_append, dseg_cons]
  ac_rfl
/-- A node's value is turned. -/
theorem Sat.plc_value {pre post : List DN} {x : DN} (h : i < ch.length) (e : ch[i] = pre ++ x :: post) (S : Sat w0 w (plc T Tp g ch * R)) (v' : Value) :
    Sat w0 (w.setCell ⟨x.b, 1, none⟩ v') (plc T Tp g (ch.set i (pre ++ { x with v := v' } :: post)) * R) := by
  rw [plc_at _ _ _ h, e, dseg_append, dseg_cons] at S
  have S1 : Sat w0 w (dnode T x (hd0 post) * (plr T Tp g ch i (hd0 (pre ++ x :: post)) * (dseg T pre (hd0 (x :: post)) * (dseg T post (.pointer none) * R)))) := S.cong (by ac_rfl)
  refine (S1.dnode_v v').cong ?_
  rw [plc_set _ _ _ h, dseg_append, dseg_cons]
  have e1 : hd0 (pre ++ { x with v := v' } :: post) = hd0 (pre ++ x :: post) := by unfold hd0; rw [hdo_append, hdo_append]; rfl
  rw [e1]
  simp only [hdo_cons]
  ac_rfl
/-- A node is put ahead of a chain: two stores. -/
theorem Sat.plc_front {x : DN} {nx : Value} (h : i < ch.length) (S : Sat w0 w (dnode T x nx * (plc T Tp g ch * R))) :
    w.cell? ⟨g, i, none⟩ = some (hd0 ch[i]) ∧ (w.setCell ⟨x.b, 2, none⟩ (hd0 ch[i])).cell? ⟨g, i, none⟩ = some (hd0 ch[i]) ∧ (∀ j, (w.setCell ⟨x.b, 2, none⟩ (hd0 ch[i])).frozen? ⟨g, j, none⟩ = false) ∧ Sat w0 ((w.setCell ⟨x.b, 2, none⟩ (hd0 ch[i])).setCell ⟨g, i, none⟩ (pt x.b)) (plc T Tp g (ch.set i (x :: ch[i])) * R) := by
  have S1 := S
  rw [plc_at _ _ _ h] at S1
  have S2 : Sat w0 w (plr T Tp g ch i (hd0 ch[i]) * (dnode T x nx * (dseg T ch[i] (.pointer none) * R))) := S1.cong (by ac_rfl)
  obtain ⟨a, b, _⟩ := S2.plr_cell h
  have S3 := S2.p2.dnode_nx (hd0 ch[i])
  refine ⟨a, (S3.p2.plr_cell h).1, (S3.p2.plr_cell h).2.1, ?_⟩
  have S4 := (S3.p2.plr_cell h).2.2 (pt x.b)
  refine S4.cong ?_
  rw [plc_set _ _ _ h, dseg_cons]
  simp only [hdo_cons]
  ac_rfl
/-- A chain is taken off its place. -/
theorem Sat.plc_off (h : i < ch.length) (S : Sat w0 w (plc T Tp g ch * R)) :
    w.cell? ⟨g, i, none⟩ = some (hd0 ch[i]) ∧ (∀ j, w.frozen? ⟨g, j, none⟩ = false) ∧ Sat w0 (w.setCell ⟨g, i, none⟩ (.pointer none)) (plc T Tp g (ch.set i []) * (dseg T ch[i] (.pointer none) * R)) := by
  have S1 := S
  rw [plc_at _ _ _ h, sep_assoc] at S1
  obtain ⟨a, b, c⟩ := S1.plr_cell h
  refine ⟨a, b, ?_⟩
  refine (c (.pointer none)).cong ?_
  rw [plc_set _ _ _ h]
  simp only [hdo_nil, dseg_nil, mul_emp]
theorem Sat.dseg_first {x : DN} {xs : List DN} {nx : Value} (S : Sat w0 w (dseg T (x :: xs) nx * R)) :
    w.cell? ⟨x.b, 0, none⟩ = some (.string x.k) ∧ w.cell? ⟨x.b, 2, none⟩ = some (hdo xs nx) ∧ Sat w0 w (dnode T x (hdo xs nx) * (dseg T xs nx * R)) := by
  rw [dseg_cons, sep_assoc] at S
  exact ⟨S.dnode_cells.1, S.dnode_cells.2.2.1, S⟩
/-- New places. -/
theorem plc_new (T Tp g n : Nat) : plc T Tp g (List.replicate n []) = pts g (.cells (List.replicate n (.pointer none)).toArray Tp (0, 0)) := by
  unfold plc
  have : star ((List.replicate n ([] : List DN)).map fun c => dseg T c (.pointer none)) = emp := by
    induction n with
    | zero => rfl
    | succ n ih => rw [List.replicate_succ, List.map_cons, star_cons, ih, dseg_nil, emp_mul]
  rw [this, mul_emp, List.map_replicate]
  rfl
end
end Go.Sl
/-! ### Row -/
namespace Go.Sl
open Go.RowKit
set_option linter.unusedVariables false

/-- v is a slice of n elements of type e (sz cells each) with the cells xs; its array is owned whole. -/
def row (e sz : Nat) (v : Value) (n : Nat) (xs : List Value) : HP := fun h => xs.length = n * sz ∧
  ((v = .slice none 0 0 ∧ n = 0 ∧ ∀ b, h b = none) ∨
   ∃ g cap cur, v = .slice (some ⟨g, 0, none⟩) n cap ∧ n ≤ cap ∧ cap ≤ maxLen ∧ cur.size = cap * sz ∧ cur.toList.take (n * sz) = xs ∧ pts g (.cells cur e (0, 0)) h)

section
variable {w0 w w' : World} {e sz n : Nat} {v : Value} {xs : List Value} {R : HP} {P : Program}
theorem Sat.row_nil (S : Sat w0 w R) (e sz : Nat) : Sat w0 w (row e sz (.slice none 0 0) 0 [] * R) := by
  rw [← emp_mul R] at S
  exact S.mono1 (fun h hh => ⟨by simp, .inl ⟨rfl, rfl, hh⟩⟩)
theorem Sat.row_open (S : Sat w0 w (row e sz v n xs * R)) : xs.length = n * sz ∧ ((v = .slice none 0 0 ∧ n = 0 ∧ xs = [] ∧ Sat w0 w R) ∨
    ∃ g cap cur, v = .slice (some ⟨g, 0, none⟩) n cap ∧ n ≤ cap ∧ cap ≤ maxLen ∧ cur.size = cap * sz ∧ cur.toList.take (n * sz) = xs ∧ Sat w0 w (pts g (.cells cur e (0, 0)) * R)) := by
  have S' := S
  obtain ⟨h, ⟨h1, h2, hd, hu, ⟨hl, hx⟩, hr⟩, hw⟩ := S.has
  refine ⟨hl, ?_⟩
  rcases hx with ⟨rfl, rfl, he⟩ | ⟨g, cap, cur, rfl, hn, hm, hs, ht, hp⟩
  · exact .inl ⟨rfl, rfl, List.eq_nil_of_length_eq_zero (by simpa using hl), S'.drop1⟩
  · exact .inr ⟨g, cap, cur, rfl, hn, hm, hs, ht, S.env rfl rfl rfl (Nat.le_refl _) ⟨h, ⟨h1, h2, hd, hu, hp, hr⟩, hw⟩⟩
theorem Sat.row_shut {g cap : Nat} {cur : Array Value} (hl : xs.length = n * sz) (hn : n ≤ cap) (hm : cap ≤ maxLen) (hs : cur.size = cap * sz) (ht : cur.toList.take (n * sz) = xs)
    (S : Sat w0 w (pts g (.cells cur e (0, 0)) * R)) : Sat w0 w (row e sz (.slice (some ⟨g, 0, none⟩) n cap) n xs * R) :=
  S.mono1 fun h hh => ⟨hl, .inr ⟨g, cap, cur, rfl, hn, hm, hs, ht, hh⟩⟩
theorem Sat.row_owns (S : Sat w0 w (row e sz v n xs * R)) : w.ownsRow 0 e sz v n xs := by
  obtain ⟨hl, h⟩ := S.row_open
  rcases h with ⟨rfl, rfl, rfl, _⟩ | ⟨g, cap, cur, rfl, hn, hm, hs, ht, S1⟩
  · exact ⟨by simp, .inl ⟨rfl, rfl⟩⟩
  · exact ⟨hl, .inr ⟨g, cap, cur, rfl, Nat.zero_le _, S1.blk, hn, hm, hs, ht⟩⟩
/-- The cells of what is there. -/
theorem Sat.row_cells {A : Option Addr} {m c : Nat} (S : Sat w0 w (row e sz (.slice A m c) n xs * R)) (j : Nat) (u : Value) (hj : xs[j]? = some u) : ∃ g, A = some ⟨g, 0, none⟩ ∧ w.cell? ⟨g, j, none⟩ = some u := by
  obtain ⟨hl, h⟩ := S.row_open
  rcases h with ⟨_, _, rfl, _⟩ | ⟨g, cap, cur, hv, hn, hm, hs, ht, S1⟩
  · simp at hj
  · injection hv with h1 h2 h3
    refine ⟨g, h1, cell_of S1.blk j ?_⟩
    rw [← ht] at hj
    have hlt : j < n * sz := by
      have := (List.getElem?_eq_some_iff.1 hj).1
      simp at this; omega
    rw [List.getElem?_take_of_lt hlt] at hj
    simpa using hj
/-- A new slice made whole: 'make', or the array behind a literal. -/
theorem Sat.row_new {cur : Array Value} (S : Sat w0 w R) (hs : cur.size = n * sz) (hm : n ≤ maxLen) : Sat w0 (w.alloc (.cells cur e)) (row e sz (.slice (some ⟨w.heap.size, 0, none⟩) n n) n cur.toList * R) :=
  Sat.row_shut (by simpa using hs) (Nat.le_refl _) hm hs (by rw [← hs, ← Array.length_toList]; exact List.take_length) (S.alloc _)

/-- 'append(v, news...)'. -/
theorem Sat.run_append (S : Sat w0 w (row e sz v n xs * R)) (t ty : TypeId) {z : Value} {bytes : Nat} (ht : P.underlying t = some (.slice e)) (hinfo : (P.info? e).map (fun i => (i.zero, i.size, i.bytes)) = some (some z, sz, bytes))
    (hzs : z.cells.size = sz) (hsz : 0 < sz) (a : Addr) (m c : Nat) (news : List Value) (hl : news.length = m * sz) (hnews : ∀ j u, news[j]? = some u → w.cell? (a.add j) = some u) (h1 : ∀ u ∈ news, u.oneCell' = true)
    (h63 : n + m ≤ maxLen) (hbytes : (n + m) * bytes ≤ 140737488355328) :
    ∃ v' w', (Builtin.append_ #[t, t] ty #[v, .slice (some a) m c]).run P w = .ok v' w' ∧ Sat w0 w' (row e sz v' (n + m) (xs ++ news) * R) := by
  obtain ⟨i, hi, hz0, hz1, hz2⟩ := info_parts hinfo
  obtain ⟨v', w', hr, hown, hg, _, hat⟩ := run_append_own_at (P := P) w 0 t ty e i z sz bytes ht hi hz0 hz1 hz2 hzs hsz v n xs S.row_owns a m c news hl hnews h1 h63 hbytes (Nat.zero_le _)
  refine ⟨v', w', hr, ?_⟩
  obtain ⟨h, ⟨k1, k2, hd, hu, ⟨_, hx⟩, hR⟩, hw⟩ := S.has
  -- what R has is no block of v's, and lies in w
  have hk2 : ∀ b o, k2 b = some o → w'.heap[b]? = some o ∧ v'.ownBlock ≠ some b := by
    intro b o hb
    have hwb : w.heap[b]? = some o := hw b o (by
      rw [hu b]
      rcases hd b with e | e
      · simp [e, hb]
      · rw [e] at hb; cases hb)
    have hlt := (Array.getElem?_eq_some_iff.1 hwb).1
    have hne : v.ownBlock ≠ some b := by
      rcases hx with ⟨rfl, _, _⟩ | ⟨g, cap, cur, rfl, _, _, _, _, rfl⟩
      · simp [Value.ownBlock]
      · intro e
        simp only [Value.ownBlock, Option.some.injEq] at e
        subst e
        have := hd g
        simp [hb] at this
    refine ⟨(hg.block b hlt (fun e => hne e.symm)).trans hwb, ?_⟩
    rcases hat with e | e
    · rw [e]; exact hne
    · rw [e]; intro e'; simp at e'; omega
  have hos := S.env (w' := w') (B := row e sz v' (n + m) (xs ++ news) * R) hg.os hg.tape hg.output hg.size
  refine hos ?_
  rcases hown.2 with ⟨rfl, hn0⟩ | ⟨g, cap, cur, rfl, _, hgb, hnc, hcm, hcs, htk⟩
  · refine ⟨k2, ⟨fun _ => none, k2, fun _ => .inl rfl, fun b => by simp, ⟨hown.1, .inl ⟨rfl, hn0, fun _ => rfl⟩⟩, hR⟩, fun b o hb => (hk2 b o hb).1⟩
  · refine ⟨fun b => if b = g then some (.cells cur e (0, 0)) else k2 b, ⟨fun b => if b = g then some (.cells cur e (0, 0)) else none, k2, fun b => ?_, fun b => ?_, ⟨hown.1, .inr ⟨g, cap, cur, rfl, hnc, hcm, hcs, htk, rfl⟩⟩, hR⟩, fun b o hb => ?_⟩
    · by_cases eb : b = g
      · right
        cases hkb : k2 b with
        | none => rfl
        | some o => exact absurd (by simp [Value.ownBlock, eb]) (hk2 b o hkb).2
      · left; simp [eb]
    · by_cases eb : b = g <;> simp [eb]
    · by_cases eb : b = g
      · simp [eb] at hb; subst hb; rw [eb]; exact hgb
      · simp [eb] at hb; exact (hk2 b o hb).1
theorem row_succ (S : Sat w0 w (row e sz v (n + 1) xs * R)) : ∃ g cap, v = .slice (some ⟨g, 0, none⟩) (n + 1) cap := by
  obtain ⟨_, h⟩ := S.row_open
  rcases h with ⟨_, h0, _⟩ | ⟨g, cap, cur, hv, _⟩
  · omega
  · exact ⟨g, cap, hv⟩
end

/-! ### append at the operation, its run being known -/
theorem wpList_append_eq {P : Program} {w w' : World} {ops : Array Oper} {rest : List Oper} {o : Oper} {a : Act} {Q : Exit → Act → World → Prop} (hg : o.guard = none) (s x : Operand) (t u : TypeId)
    (hop : o.op = .call { callee := .builtin .append, args := #[s, x], argTypes := #[t, u] }) {v y v' : Value} (hs : a.eval s = v) (hx : a.eval x = y) (hr : (Builtin.append_ #[t, u] o.type #[v, y]).run P w = .ok v' w')
    (h : wpList P ops Q rest (a.put o.dst v') w') : wpList P ops Q (o :: rest) a w := by
  refine wpList_plain hg fun K hK => ?_
  unfold Oper.wp execOp
  simp only [hop, resolve, invoke, builtin, Sem.run_bind, Sem.run_pure, Result.andThen_ok, List.map_toArray, List.map_cons, List.map_nil, hs, hx, hr]
  exact hK _ _ h
theorem wpListIn_append_eq {F : Fence} {n : Nat} {P : Program} {w w' : World} {ops : Array Oper} {rest : List Oper} {o : Oper} {a : Act} {Q : Exit → Act → World → Prop} (hg : o.guard = none) (s x : Operand) (t u : TypeId)
    (hop : o.op = .call { callee := .builtin .append, args := #[s, x], argTypes := #[t, u] }) {v y v' : Value} (hs : a.eval s = v) (hx : a.eval x = y) (hr : (Builtin.append_ #[t, u] o.type #[v, y]).run P w = .ok v' w')
    (h : wpListIn F n P ops Q rest (a.put o.dst v') w') : wpListIn F n P ops Q (o :: rest) a w := by
  refine wpListIn_plain hg fun K hK => ?_
  unfold Oper.wpIn
  refine ⟨by simp [Oper.about, hop, resolve, Target.leads, Sem.run_pure], ?_⟩
  rw [Oper.semAt_plain F _ _ (by rw [hop]; intro c hc'; cases hc')]
  simp [execOp, hop, resolve, invoke, builtin, hs, hx, hr, Result.andThen]
  exact hK _ _ h

/-- 'xs[m:]'. -/
theorem run_slice_from {P : Program} {t e : TypeId} {i : TypeInfo} (ht : P.underlying t = some (.slice e)) (hi : P.info? e = some i) (A : Option Addr) (n c : Nat) (m : Int) (h0 : 0 ≤ m) (hm : m ≤ n) (W : World) :
    (Instr.slice t (.slice A n c) (some (.int .i64 m)) none none).run P W = .ok (.slice (if c = m.toNat then A else A.map (·.add (m.toNat * i.size))) (n - m.toNat) (c - m.toNat)) W := by
  simp [Instr.slice, Instr.sliceBounds, Instr.sliceBound, asIntOf, run_underlying ht, sizeOf, typeInfo, hi, Result.andThen, h0, hm]
end Go.Sl
/-! ### Mp -/
namespace Go.Sl
open Go.RowKit Go.MapKept
set_option linter.unusedVariables false
set_option linter.unusedSectionVars false
set_option linter.unusedSimpArgs false

/-- What lies under a key. -/
def lk {κ : Type} [DecidableEq κ] (l : List (κ × Value)) (k : κ) : Option Value := (l.find? fun p => decide (p.1 = k)).map (·.2)
def era {κ : Type} [DecidableEq κ] (l : List (κ × Value)) (k : κ) : List (κ × Value) := l.filter fun p => !decide (p.1 = k)
def ins {κ : Type} [DecidableEq κ] (l : List (κ × Value)) (k : κ) (v : Value) : List (κ × Value) := (k, v) :: era l k

/-- How keys stand in a map: of one kind, and no two alike. -/
structure Keys (d : TypeDesc) {κ : Type} (kv : κ → Value) : Prop where
  kind : ∀ x, IsKey d (kv x)
  inj : ∀ x y, kv x = kv y → x = y
theorem keys_string : Keys .string (Value.string) := ⟨fun _ => trivial, fun _ _ h => by injection h⟩
theorem keys_int (k : IntKind) : Keys (.int k) (Value.int k) := ⟨fun _ => rfl, fun _ _ h => by injection h⟩

/-- Block b is a map with the keys and values of l. -/
def gmap {κ : Type} (kv : κ → Value) (b : Nat) (l : List (κ × Value)) : HP :=
  ex fun m : Array MapEntry × Nat => wh (Stamped m.1 m.2 ∧ (m.1.toList.map fun e => (e.key, e.val)).Perm (l.map fun p => (kv p.1, p.2))) (pts b (.map m.1 m.2))

section
variable {κ : Type} [DecidableEq κ] {kv : κ → Value} {d : TypeDesc} {w0 w : World} {b : Nat} {l l' : List (κ × Value)} {R : HP} {P : Program} {t kt et : TypeId} {z : Value}

theorem gmap_perm (h : l.Perm l') : gmap kv b l = gmap kv b l' := by
  unfold gmap
  congr 1
  funext m
  congr 1
  exact propext ⟨fun h1 => ⟨h1.1, h1.2.trans (h.map _)⟩, fun h1 => ⟨h1.1, h1.2.trans (h.map _).symm⟩⟩

theorem Sat.gmap_open (S : Sat w0 w (gmap kv b l * R)) : ∃ es clock, Stamped es clock ∧ (es.toList.map fun e => (e.key, e.val)).Perm (l.map fun p => (kv p.1, p.2)) ∧ Sat w0 w (pts b (.map es clock) * R) := by
  obtain ⟨m, S⟩ := S.ex1
  obtain ⟨⟨h1, h2⟩, S⟩ := S.wh1
  exact ⟨m.1, m.2, h1, h2, S⟩
theorem Sat.gmap_shut {es : Array MapEntry} {clock : Nat} (h1 : Stamped es clock) (h2 : (es.toList.map fun e => (e.key, e.val)).Perm (l.map fun p => (kv p.1, p.2))) (S : Sat w0 w (pts b (.map es clock) * R)) : Sat w0 w (gmap kv b l * R) :=
by
  unfold gmap
  exact Sat.mk_ex1 (es, clock) (Sat.mk_wh1 ⟨h1, h2⟩ S)
theorem Sat.gmap_lt (S : Sat w0 w (gmap kv b l * R)) : b < w.heap.size := by
  obtain ⟨_, _, _, _, S⟩ := S.gmap_open
  exact S.lt
theorem Sat.gmap_made (S : Sat w0 w R) : Sat w0 (w.alloc (.map #[] 0)) (gmap kv w.heap.size [] * R) :=
  Sat.gmap_shut (stamped_empty 0) (by simp) (S.alloc _)

theorem nodup_of {es : Array MapEntry} {clock : Nat} (h1 : Stamped es clock) (h2 : (es.toList.map fun e => (e.key, e.val)).Perm (l.map fun p => (kv p.1, p.2))) (K : Keys d kv) : (l.map (·.1)).Nodup := by
  have a : (es.toList.map (·.key)).Nodup := h1.2.2
  have p1 : (es.toList.map (·.key)).Perm ((l.map (·.1)).map kv) := by
    have := h2.map (·.1)
    simpa [List.map_map, Function.comp_def] using this
  have := p1.nodup_iff.1 a
  exact (List.pairwise_map.1 this).imp fun h e => h (by rw [e])
theorem kinds_of {es : Array MapEntry} (h2 : (es.toList.map fun e => (e.key, e.val)).Perm (l.map fun p => (kv p.1, p.2))) (K : Keys d kv) : ∀ x ∈ es.toList, IsKey d x.key := by
  intro x hx
  have : (x.key, x.val) ∈ l.map fun p => (kv p.1, p.2) := h2.mem_iff.1 (List.mem_map.2 ⟨x, hx, rfl⟩)
  obtain ⟨p, _, hp⟩ := List.mem_map.1 this
  injection hp with e1 e2
  rw [← e1]
  exact K.kind _

theorem lk_none {k : κ} (h : ∀ p ∈ l, p.1 ≠ k) : lk l k = none := by
  unfold lk
  rw [List.find?_eq_none.2 (fun p hp => by simpa using h p hp)]
  rfl
theorem lk_some {k : κ} {v : Value} (hn : (l.map (·.1)).Nodup) (h : (k, v) ∈ l) : lk l k = some v := by
  induction l with
  | nil => cases h
  | cons p l ih =>
    rw [List.map_cons, List.nodup_cons] at hn
    unfold lk
    rw [List.find?_cons]
    by_cases e : p.1 = k
    · simp only [e, decide_true, Option.map_some, Option.some.injEq]
      rcases List.mem_cons.1 h with h | h
      · rw [← h]
      · exact absurd (List.mem_map.2 ⟨_, h, e.symm⟩) hn.1
    · simp only [e, decide_false]
      rcases List.mem_cons.1 h with h | h
      · rw [← h] at e; exact absurd rfl e
      · exact ih hn.2 h
theorem lk_mem {k : κ} {v : Value} (h : lk l k = some v) : (k, v) ∈ l := by
  unfold lk at h
  obtain ⟨p, hp, rfl⟩ := Option.map_eq_some_iff.1 h
  have := List.find?_some hp
  have e : p.1 = k := by simpa using this
  rw [← e]
  exact List.mem_of_find?_eq_some hp

/-- What the model finds. -/
theorem find_gmap {es : Array MapEntry} {clock : Nat} (h1 : Stamped es clock) (h2 : (es.toList.map fun e => (e.key, e.val)).Perm (l.map fun p => (kv p.1, p.2))) (K : Keys d kv) (hk : P.underlying kt = some d) (w : World) (k : κ) :
    (lk l k = none ∧ (Instr.findKey kt (kv k) es.toList).run P w = .ok none w ∧ ∀ e ∈ es.toList, e.key ≠ kv k) ∨
    ∃ v j e, lk l k = some v ∧ (Instr.findKey kt (kv k) es.toList).run P w = .ok (some (j, v)) w ∧ es.toList[j]? = some e ∧ e.key = kv k ∧ e.val = v := by
  rcases findNow_spec (K.kind k) es.toList 0 (kinds_of h2 K) with ⟨a, c⟩ | ⟨j, e, a, c, f⟩
  · refine .inl ⟨lk_none fun p hp e => ?_, run_findKey hk a, c⟩
    have : (kv p.1, p.2) ∈ es.toList.map fun e => (e.key, e.val) := h2.mem_iff.2 (List.mem_map.2 ⟨p, hp, rfl⟩)
    obtain ⟨x, hx, ex⟩ := List.mem_map.1 this
    injection ex with e1 e2
    exact c x hx (by rw [e1, e])
  · refine .inr ⟨e.val, j, e, ?_, by simpa using run_findKey hk a, c, f, rfl⟩
    have : (e.key, e.val) ∈ l.map fun p => (kv p.1, p.2) := h2.mem_iff.1 (List.mem_map.2 ⟨e, List.mem_of_getElem? c, rfl⟩)
    obtain ⟨p, hp, ep⟩ := List.mem_map.1 this
    injection ep with e1 e2
    have e3 : p.1 = k := K.inj _ _ (e1.trans f)
    exact lk_some (nodup_of h1 h2 K) (by rw [← e2, ← e3]; exact hp)

/-- 'm[k]', with ok and without. -/
theorem Sat.run_lookup (S : Sat w0 w (gmap kv b l * R)) (K : Keys d kv) (ht : P.underlying t = some (.map kt et)) (hk : P.underlying kt = some d) (hz : ∀ w, (zeroValue et).run P w = .ok z w) (c : Bool) (k : κ) :
    (Instr.lookup t (.map (some b)) (kv k) c).run P w = .ok (if c then .tuple #[(lk l k).getD z, .bool (lk l k).isSome] else (lk l k).getD z) w := by
  obtain ⟨es, clock, h1, h2, S⟩ := S.gmap_open
  rcases find_gmap h1 h2 K hk w k with ⟨a, f, _⟩ | ⟨v, j, e, a, f, _⟩
  · simp [Instr.lookup, run_underlying ht, MapKept.run_getObj_map S.blk, run_checkKey hk (K.kind k), f, hz, Result.andThen, a]
  · simp [Instr.lookup, run_underlying ht, MapKept.run_getObj_map S.blk, run_checkKey hk (K.kind k), f, Result.andThen, a]
/-- 'm[k]' of no map. -/
theorem run_lookup_nil (K : Keys d kv) (ht : P.underlying t = some (.map kt et)) (hk : P.underlying kt = some d) (hz : ∀ w, (zeroValue et).run P w = .ok z w) (w : World) (c : Bool) (k : κ) :
    (Instr.lookup t (.map none) (kv k) c).run P w = .ok (if c then .tuple #[z, .bool false] else z) w := by
  have hf : (Instr.findKey kt (kv k) []).run P w = .ok none w := run_findKey hk rfl
  simp [Instr.lookup, run_underlying ht, run_checkKey hk (K.kind k), hf, hz, Result.andThen]
/-- 'len(m)'. -/
theorem Sat.run_len (S : Sat w0 w (gmap kv b l * R)) (ht : P.underlying t = some (.map kt et)) (ty : TypeId) :
    (Builtin.len_ #[t] ty #[.map (some b)]).run P w = .ok (goInt l.length) w := by
  obtain ⟨es, clock, h1, h2, S⟩ := S.gmap_open
  have : es.size = l.length := by simpa using h2.length_eq
  simp [Builtin.len_, run_underlying ht, MapKept.run_getObj_map S.blk, this, Result.andThen]

theorem getElem_cons_eraseIdx_aux {α : Type} : ∀ (l : List α) (j : Nat) (h : j < l.length), (l[j] :: l.eraseIdx j).Perm l
  | [], _, h => by simp at h
  | x :: l, 0, h => by simp
  | x :: l, j + 1, h => by
    simp only [List.getElem_cons_succ, List.eraseIdx_cons_succ]
    exact (List.Perm.swap _ _ _).trans ((getElem_cons_eraseIdx_aux l j (by simpa using h)).cons x)

theorem perm_del {es : Array MapEntry} {clock : Nat} (h1 : Stamped es clock) (h2 : (es.toList.map fun e => (e.key, e.val)).Perm (l.map fun p => (kv p.1, p.2))) (K : Keys d kv) (k : κ) {j : Nat} {e : MapEntry} (hj : es.toList[j]? = some e) (he : e.key = kv k) :
    ((es.toList.eraseIdx j).map fun e => (e.key, e.val)).Perm ((era l k).map fun p => (kv p.1, p.2)) := by
  obtain ⟨hjl, hje⟩ := List.getElem?_eq_some_iff.1 hj
  have hn := nodup_of h1 h2 K
  have a : (e :: es.toList.eraseIdx j).Perm es.toList := by rw [← hje]; exact getElem_cons_eraseIdx_aux _ _ hjl
  have hv : (k, e.val) ∈ l := by
    have : (e.key, e.val) ∈ l.map fun p => (kv p.1, p.2) := h2.mem_iff.1 (List.mem_map.2 ⟨e, List.mem_of_getElem? hj, rfl⟩)
    obtain ⟨p, hp, ep⟩ := List.mem_map.1 this
    injection ep with e1 e2
    rw [← e2, ← K.inj _ _ (e1.trans he)]
    exact hp
  have c : ((k, e.val) :: era l k).Perm l := by
    clear h2
    induction l with
    | nil => cases hv
    | cons p l ih =>
      rw [List.map_cons, List.nodup_cons] at hn
      by_cases ep : p.1 = k
      · have e1 : p = (k, e.val) := by
          rcases List.mem_cons.1 hv with h | h
          · exact h.symm
          · exact absurd (List.mem_map.2 ⟨_, h, ep.symm⟩) hn.1
        subst e1
        have : era ((k, e.val) :: l) k = l := by
          unfold era
          rw [List.filter_cons_of_neg (by simp)]
          refine List.filter_eq_self.2 fun q hq => ?_
          simp only [Bool.not_eq_true', decide_eq_false_iff_not]
          exact fun eq => hn.1 (List.mem_map.2 ⟨q, hq, eq⟩)
        rw [this]
      · have h' : (k, e.val) ∈ l := by
          rcases List.mem_cons.1 hv with h | h
          · rw [← h] at ep; exact absurd rfl ep
          · exact h
        have : era (p :: l) k = p :: era l k := by unfold era; rw [List.filter_cons_of_pos (by simp [ep])]
        rw [this]
        exact (List.Perm.swap _ _ _).trans ((ih hn.2 h').cons p)
  have a2 := a.map fun e => (e.key, e.val)
  have c2 := c.map fun p => (kv p.1, p.2)
  rw [List.map_cons] at a2 c2
  refine List.Perm.cons_inv (a := (e.key, e.val)) ?_
  rw [he] at a2 ⊢
  exact a2.trans (h2.trans c2.symm)

theorem modify_set_aux {α : Type} (f : α → α) : ∀ (l : List α) (j : Nat) (e : α), l[j]? = some e → l.modify j f = l.set j (f e)
  | [], _, _, h => by simp at h
  | x :: l, 0, e, h => by simp at h; subst h; rfl
  | x :: l, j + 1, e, h => by simp at h; simp [modify_set_aux f l j e h]
theorem set_perm_aux {α : Type} (y : α) : ∀ (l : List α) (j : Nat), j < l.length → (l.set j y).Perm (y :: l.eraseIdx j)
  | [], _, h => by simp at h
  | x :: l, 0, h => by simp
  | x :: l, j + 1, h => by
    simp only [List.set_cons_succ, List.eraseIdx_cons_succ]
    exact ((set_perm_aux y l j (by simpa using h)).cons x).trans (List.Perm.swap _ _ _)

/-- 'm[k] = v'. -/
theorem Sat.run_mapUpdate (S : Sat w0 w (gmap kv b l * R)) (K : Keys d kv) (ht : P.underlying t = some (.map kt et)) (hk : P.underlying kt = some d) (k : κ) (v : Value) :
    ∃ w', (Instr.mapUpdate t (.map (some b)) (kv k) v).run P w = .ok () w' ∧ Sat w0 w' (gmap kv b (ins l k v) * R) := by
  obtain ⟨es, clock, h1, h2, S⟩ := S.gmap_open
  rcases find_gmap h1 h2 K hk w k with ⟨a, f, c⟩ | ⟨v', j, e, a, f, c, g, i⟩
  · refine ⟨_, by simp [Instr.mapUpdate, run_underlying ht, MapKept.run_getObj_map S.blk, run_checkKey hk (K.kind k), f, run_setObj_map _ S.blk, Result.andThen]; rfl, ?_⟩
    refine Sat.gmap_shut (stamped_push h1 c) ?_ S.putObj
    have e1 : era l k = l := by
      unfold era
      refine List.filter_eq_self.2 fun p hp => ?_
      simp only [Bool.not_eq_true', decide_eq_false_iff_not]
      intro e
      have : (kv p.1, p.2) ∈ es.toList.map fun e => (e.key, e.val) := h2.mem_iff.2 (List.mem_map.2 ⟨p, hp, rfl⟩)
      obtain ⟨x, hx, ex⟩ := List.mem_map.1 this
      injection ex with e1 e2
      exact c x hx (by rw [e1, e])
    unfold ins
    rw [e1]
    simp only [Array.toList_push, List.map_append, List.map_cons, List.map_nil]
    exact (List.perm_append_singleton _ _).trans (h2.cons _)
  · obtain ⟨hjl, hje⟩ := List.getElem?_eq_some_iff.1 c
    have hj : es[j]? = some e := by simpa using c
    refine ⟨_, by simp [Instr.mapUpdate, run_underlying ht, MapKept.run_getObj_map S.blk, run_checkKey hk (K.kind k), f, hj, g, run_keyThatStays (K.kind k), run_setObj_map _ S.blk, Result.andThen]; rfl, ?_⟩
    refine Sat.gmap_shut (stamped_modify h1 j (fun e => { e with key := kv k, val := v }) (fun _ _ => rfl) (fun e' _ he' => ?_)) ?_ S.putObj
    · rw [hj] at he'; cases he'; exact g.symm
    · have e2 : (es.modify j fun e => { e with key := kv k, val := v }).toList = es.toList.set j { e with key := kv k, val := v } := by
        rw [Array.toList_modify]
        exact modify_set_aux _ _ _ _ c
      rw [e2]
      have p1 : (es.toList.set j { e with key := kv k, val := v }).Perm ({ e with key := kv k, val := v } :: es.toList.eraseIdx j) := set_perm_aux _ _ _ hjl
      refine (p1.map _).trans ?_
      unfold ins
      simp only [List.map_cons]
      exact (perm_del h1 h2 K k c g).cons _

/-- 'delete(m, k)'. -/
theorem Sat.run_delete (S : Sat w0 w (gmap kv b l * R)) (K : Keys d kv) (ht : P.underlying t = some (.map kt et)) (hk : P.underlying kt = some d) (k : κ) (ty t2 : TypeId) :
    ∃ w', (Builtin.delete_ #[t, t2] ty #[.map (some b), kv k]).run P w = .ok (.tuple #[]) w' ∧ Sat w0 w' (gmap kv b (era l k) * R) := by
  obtain ⟨es, clock, h1, h2, S⟩ := S.gmap_open
  rcases find_gmap h1 h2 K hk w k with ⟨a, f, c⟩ | ⟨v', j, e, a, f, c, g, i⟩
  · refine ⟨_, by simp [Builtin.delete_, run_underlying ht, MapKept.run_getObj_map S.blk, run_checkKey hk (K.kind k), f, run_setObj_map _ S.blk, Result.andThen]; rfl, ?_⟩
    refine Sat.gmap_shut h1 ?_ S.putObj
    have e1 : era l k = l := by
      unfold era
      refine List.filter_eq_self.2 fun p hp => ?_
      simp only [Bool.not_eq_true', decide_eq_false_iff_not]
      intro e
      have : (kv p.1, p.2) ∈ es.toList.map fun e => (e.key, e.val) := h2.mem_iff.2 (List.mem_map.2 ⟨p, hp, rfl⟩)
      obtain ⟨x, hx, ex⟩ := List.mem_map.1 this
      injection ex with e1 e2
      exact c x hx (by rw [e1, e])
    rw [e1]
    exact h2
  · obtain ⟨hjl, hje⟩ := List.getElem?_eq_some_iff.1 c
    refine ⟨_, by simp [Builtin.delete_, run_underlying ht, MapKept.run_getObj_map S.blk, run_checkKey hk (K.kind k), f, run_setObj_map _ S.blk, Result.andThen]; rfl, ?_⟩
    refine Sat.gmap_shut (stamped_erase h1 j) ?_ S.putObj
    have : (es.eraseIdxIfInBounds j).toList = es.toList.eraseIdx j := by
      rw [Array.eraseIdxIfInBounds]
      split
      · simp
      · rename_i h; simp at hjl; exact absurd hjl h
    rw [this]
    exact perm_del h1 h2 K k c g
end
end Go.Sl
/-! ### Hash -/
namespace Go.Sl
open Go.RowKit Go.Proofs
set_option linter.unusedVariables false
set_option linter.unusedSimpArgs false
set_option maxRecDepth 100000

theorem ret_int {k : IntKind} {a b : Int} (h : a = b) : Ending.returned (.int k a) = .returned (.int k b) := by rw [h]
/-- 'size(b)'. -/
theorem hsize_calls (b : Int) (h0 : 0 ≤ b) (h1 : b ≤ 16) (w : World) : Calls Try.prog 116 #[.int .i64 b] w fun en w' => en = .returned (.int .i64 b) ∧ w = w' := by
  go_enter Try.func116, Try.ntmps116
  go_wp2
  go_ret
  exact ⟨ret_int (by omega), rfl⟩
theorem wraps_u64 (n : Int) (h₀ : 0 ≤ n) (h₁ : n < 2 ^ 64) : IntKind.u64.wrap n = n := by
  simp [IntKind.wrap, IntKind.bits, IntKind.signed]; omega
theorem pow_le16 {b : Nat} (h : b ≤ 16) : (1 : Int) ≤ 2 ^ b ∧ (2 : Int) ^ b ≤ 65536 := by
  have h1 : 1 ≤ 2 ^ b := Nat.one_le_two_pow
  have h2 : 2 ^ b ≤ 2 ^ 16 := Nat.pow_le_pow_right (by decide) h
  constructor
  · have : ((1 : Nat) : Int) ≤ ((2 ^ b : Nat) : Int) := Int.ofNat_le.2 h1
    simpa using this
  · have : ((2 ^ b : Nat) : Int) ≤ ((2 ^ 16 : Nat) : Int) := Int.ofNat_le.2 h2
    simpa using this
theorem hlow_calls (h : Int) (b : Nat) (hh0 : 0 ≤ h) (hh1 : h < 2 ^ 64) (h1 : b ≤ 16) (w : World) : Calls Try.prog 110 #[.int .u64 h, .int .i64 b] w fun en w' => en = .returned (.int .u64 (h % 2 ^ b)) ∧ w = w' := by
  have e1 : bits .and .u64 h (IntKind.u64.wrap (IntKind.u64.wrap (2 ^ b) - 1)) = h % 2 ^ b := by
    obtain ⟨a1, a2⟩ := pow_le16 h1
    rw [wraps_u64 (2 ^ b) (by omega) (by omega), wraps_u64 _ (by omega) (by omega)]
    exact bits_mask .u64 64 (by decide) (fun n => wraps_u64 n) b (by omega) h hh0 hh1
  have HE := Lib.hid e1
  clear e1
  go_enter Try.func110, Try.ntmps110
  go_wp2_with fail
  refine (hsize_calls _ (by omega) (by omega) _).mono ?_
  rintro en w' ⟨rfl, rfl⟩
  go_wp2_with fail
  go_ret
  exact ⟨ret_int HE.out, rfl⟩
theorem hplace_calls (h : Int) (b : Nat) (hh0 : 0 ≤ h) (hh1 : h < 2 ^ 64) (h1 : b ≤ 16) (w : World) : Calls Try.prog 95 #[.int .u64 h, .int .i64 b] w fun en w' => en = .returned (.int .i64 (h % 2 ^ b)) ∧ w = w' := by
  have e1 : wrap64 (h % 2 ^ b) = h % 2 ^ b := by
    obtain ⟨a1, a2⟩ := pow_le16 h1
    have := Int.emod_nonneg h (b := 2 ^ b) (by omega)
    have := Int.emod_lt_of_pos h (b := 2 ^ b) (by omega)
    unfold wrap64; omega
  have HE := Lib.hid e1
  clear e1
  go_enter Try.func95, Try.ntmps95
  go_wp2_with fail
  refine (hlow_calls h b hh0 hh1 h1 _).mono ?_
  rintro en w' ⟨rfl, rfl⟩
  go_wp2_with fail
  go_ret
  exact ⟨ret_int HE.out, rfl⟩
theorem hidx0 (w : World) : (Instr.index 176 (.agg #[.int .u64 18397679294719823053, .int .u64 14181476777654086739, .int .u64 1]) (.int .i64 0)).run Try.prog w = .ok (.int .u64 18397679294719823053) w := by kernel_rfl
theorem hidx1 (w : World) : (Instr.index 176 (.agg #[.int .u64 18397679294719823053, .int .u64 14181476777654086739, .int .u64 1]) (.int .i64 1)).run Try.prog w = .ok (.int .u64 14181476777654086739) w := by kernel_rfl
theorem hidx2 (w : World) : (Instr.index 176 (.agg #[.int .u64 18397679294719823053, .int .u64 14181476777654086739, .int .u64 1]) (.int .i64 2)).run Try.prog w = .ok (.int .u64 1) w := by kernel_rfl
def hstep (h : Int) (c : UInt8) : Int := IntKind.u64.wrap (bits .xor .u64 h c.toNat * 1099511628211)
def hfin (h k : Int) : Int := IntKind.u64.wrap (bits .xor .u64 h (h / 2 ^ 33) * k)
theorem hfin_one (h : Int) : hfin h 1 = IntKind.u64.wrap (bits .xor .u64 h (h / 8589934592)) := by unfold hfin; rw [Int.mul_one]; rfl
/-- A text's number. -/
def hof (seed : Int) (s : ByteArray) : Int := hfin (hfin (hfin (s.data.toList.foldl hstep (bits .xor .u64 14695981039346656037 seed)) 18397679294719823053) 14181476777654086739) 1
theorem wrap_u64_range (n : Int) : 0 ≤ IntKind.u64.wrap n ∧ IntKind.u64.wrap n < 2 ^ 64 := by
  have e : IntKind.u64.wrap n = n % 2 ^ 64 := by simp [IntKind.wrap, IntKind.bits, IntKind.signed]
  rw [e]; omega
theorem hof_range (seed : Int) (s : ByteArray) : 0 ≤ hof seed s ∧ hof seed s < 2 ^ 64 := wrap_u64_range _
/-- Where a text stands in a table of 2 to the b places. -/
def plOf (seed : Int) (k : ByteArray) (b : Nat) : Nat := (hof seed k % 2 ^ b).toNat
theorem plOf_cast (seed : Int) (k : ByteArray) {b : Nat} (hb : b ≤ 16) : ((plOf seed k b : Nat) : Int) = hof seed k % 2 ^ b := by
  obtain ⟨a1, a2⟩ := pow_le16 hb
  have := Int.emod_nonneg (hof seed k) (b := 2 ^ b) (by omega)
  unfold plOf; omega
theorem plOf_lt (seed : Int) (k : ByteArray) {b : Nat} (hb : b ≤ 16) : plOf seed k b < 2 ^ b := by
  obtain ⟨a1, a2⟩ := pow_le16 hb
  have h1 := plOf_cast seed k hb
  have h2 := Int.emod_lt_of_pos (hof seed k) (b := 2 ^ b) (by omega)
  have h3 : ((2 ^ b : Nat) : Int) = 2 ^ b := by simp
  omega
theorem hof_calls (seed : Int) (s : ByteArray) (w : World) (hs : s.size ≤ maxLen) : Calls Try.prog 88 #[.int .u64 seed, .string s] w fun en w' => en = .returned (.int .u64 (hof seed s)) ∧ w = w' := by
  unfold maxLen at hs
  obtain ⟨h0, hh0⟩ : ∃ h0, h0 = bits .xor .u64 14695981039346656037 seed := ⟨_, rfl⟩
  have HH0 := Lib.hid hh0
  clear hh0
  go_enter Try.func88, Try.ntmps88
  go_wp2_with fail
  rw [← HH0.out]
  go_loop [5, 13] (fun v5 v13 => ∃ k : Nat, k ≤ s.size ∧ v13 = .int .i64 k ∧ v5 = .int .u64 ((s.data.toList.take k).foldl hstep h0)) (fun _ v13 => s.size - (intOf v13).toNat)
  case atStart => exact ⟨0, Nat.zero_le _, rfl, rfl⟩
  case round =>
    obtain ⟨k, hk, rfl, rfl⟩ := hrel
    generalize hacc : (s.data.toList.take k).foldl hstep h0 = acc
    have HACC := Lib.hid hacc
    clear hacc
    by_cases hlt : k < s.size
    · have hts : s.data.toList.take (k + 1) = s.data.toList.take k ++ [s[k]] := by
        rw [List.take_succ_eq_append_getElem (by simpa using hlt)]; rfl
      have hc : IntKind.u64.wrap (s[k].toNat : Int) = s[k].toNat := wraps_u64 _ (by omega) (by have := s[k].toNat_lt; omega)
      have HT := Lib.hid hts
      have HC := Lib.hid hc
      clear hts hc
      go_wp2_with fail
      go_round
      case rel => exact ⟨k + 1, by omega, by go_num, by rw [HT.out, List.foldl_append, HACC.out, HC.out]; rfl⟩
      case measure => simp [intOf]; omega
    · have hk2 : k = s.size := by omega
      have HK := Lib.hid hk2
      clear hk2
      go_wp2_with fail
      go_loop [5, 25] (fun v5 v25 => ∃ j : Nat, j ≤ 3 ∧ v25 = .int .i64 j ∧ v5 = .int .u64 ([18397679294719823053, 14181476777654086739, 1].take j |>.foldl hfin acc)) (fun _ v25 => 3 - (intOf v25).toNat)
      case atStart => exact ⟨0, by omega, rfl, rfl⟩
      case round =>
        obtain ⟨j, hj, rfl, rfl⟩ := hrel
        rcases (by omega : j = 0 ∨ j = 1 ∨ j = 2 ∨ j = 3) with rfl | rfl | rfl | rfl
        · have hx := hidx0 w
          go_wp2_with fail
          clear hx
          go_round
          case rel => exact ⟨1, by omega, by go_num, rfl⟩
          case measure => simp [intOf]
        · have hx := hidx1 w
          go_wp2_with fail
          clear hx
          go_round
          case rel => exact ⟨2, by omega, by go_num, rfl⟩
          case measure => simp [intOf]
        · have hx := hidx2 w
          go_wp2_with fail
          clear hx
          go_round
          case rel => exact ⟨3, by omega, by go_num, by rw [← hfin_one]; rfl⟩
          case measure => simp [intOf]
        · go_wp2_with fail
          go_ret
          refine ⟨ret_int ?_, rfl⟩
          rw [← HACC.out, HK.out, List.take_of_length_le (by simp), HH0.out]
          rfl
end Go.Sl
/-! ### Dp -/
namespace Go.Sl
open Go.RowKit
set_option linter.unusedVariables false
set_option linter.unusedSimpArgs false

/-- The new places of a parted table, and how many old ones are empty for good. -/
structure DS2 where
  s : Nat
  g : Nat
  c : List (List DN)
  mv : Nat
structure DS where
  s : Nat
  g : Nat
  c : List (List DN)
  sec : Option DS2
def DS.nodes2 (d : DS) : List DN := match d.sec with | none => [] | some e => e.c.flatten
def DS.nodes (d : DS) : List DN := d.c.flatten ++ d.nodes2
def kvs (l : List DN) : List (ByteArray × Value) := l.map fun x => (x.k, x.v)
structure Half (seed : Int) (b : Nat) (c : List (List DN)) : Prop where
  len : c.length = 2 ^ b
  b0 : 2 ≤ b
  b1 : b ≤ 16
  pl : ∀ i, (h : i < c.length) → ∀ x ∈ c[i], plOf seed x.k b = i
structure DS.Ok (seed : Int) (d : DS) : Prop where
  h0 : Half seed d.s d.c
  h1 : ∀ e, d.sec = some e → Half seed e.s e.c ∧ e.mv < d.c.length ∧ ∀ i, (h : i < d.c.length) → i < e.mv → d.c[i] = []
  nd : (d.nodes.map (·.k)).Nodup
  big : d.nodes.length ≤ 1000000000000
  ks : ∀ x ∈ d.nodes, x.k.size ≤ maxLen
  ad : ∀ e, d.sec = some e → e.s = d.s + 1 ∨ d.s = e.s + 1

theorem mem_flat_of {c : List (List DN)} {i : Nat} (h : i < c.length) {x : DN} (hx : x ∈ c[i]) : x ∈ c.flatten := List.mem_flatten.2 ⟨c[i], List.getElem_mem h, hx⟩
theorem Half.at {seed : Int} {b : Nat} {c : List (List DN)} (H : Half seed b c) {x : DN} (hx : x ∈ c.flatten) : ∃ h : plOf seed x.k b < c.length, x ∈ c[plOf seed x.k b] := by
  obtain ⟨l, hl, hx⟩ := List.mem_flatten.1 hx
  obtain ⟨i, hi, rfl⟩ := List.getElem_of_mem hl
  have e := H.pl i hi x hx
  refine ⟨by omega, ?_⟩
  simp only [e]; exact hx
theorem Half.lt {seed : Int} {b : Nat} {c : List (List DN)} (H : Half seed b c) (k : ByteArray) : plOf seed k b < c.length := by
  rw [H.len]; exact plOf_lt seed k H.b1
/-- What was met in no chain of its place is not there. -/
theorem Half.none {seed : Int} {b : Nat} {c : List (List DN)} (H : Half seed b c) {k : ByteArray} (h : ∀ x ∈ c[plOf seed k b]'(H.lt k), x.k ≠ k) : ∀ x ∈ c.flatten, x.k ≠ k := by
  intro x hx e
  obtain ⟨h1, h2⟩ := H.at hx
  simp only [e] at h2
  exact h x h2 e
/-- Chains are the same but for a place. -/
theorem flatten_set {c : List (List DN)} {i : Nat} (h : i < c.length) (l : List DN) : (c.set i l).flatten.Perm (l ++ (c.eraseIdx i).flatten) := by
  have := (perm_at (by rw [List.length_set]; exact h : i < (c.set i l).length)).flatten
  rw [List.getElem_set_self, List.eraseIdx_set_eq] at this
  exact this
theorem flatten_at {c : List (List DN)} {i : Nat} (h : i < c.length) : c.flatten.Perm (c[i] ++ (c.eraseIdx i).flatten) := (perm_at h).flatten
theorem Half.set {seed : Int} {b : Nat} {c : List (List DN)} (H : Half seed b c) {i : Nat} {l : List DN} (hl : ∀ x ∈ l, plOf seed x.k b = i) : Half seed b (c.set i l) where
  len := by rw [List.length_set]; exact H.len
  b0 := H.b0
  b1 := H.b1
  pl := fun j hj x hx => by
    rw [List.length_set] at hj
    by_cases e : i = j
    · subst e; rw [List.getElem_set_self] at hx; exact hl x hx
    · rw [List.getElem_set_ne e] at hx; exact H.pl j hj x hx
theorem Half.made (seed : Int) {b : Nat} (b0 : 2 ≤ b) (b1 : b ≤ 16) : Half seed b (List.replicate (2 ^ b) []) where
  len := by simp
  b0 := b0
  b1 := b1
  pl := fun i hi x hx => by simp at hx
theorem flatten_made (n : Nat) : (List.replicate n ([] : List DN)).flatten = [] := by simp
theorem lk_kvs_none {l : List DN} {k : ByteArray} (h : ∀ x ∈ l, x.k ≠ k) : lk (kvs l) k = none := lk_none fun p hp => by
  obtain ⟨x, hx, rfl⟩ := List.mem_map.1 hp; exact h x hx
theorem kvs_fst (l : List DN) : (kvs l).map (·.1) = l.map (·.k) := by simp [kvs, List.map_map, Function.comp_def]
theorem lk_kvs_some {l : List DN} (hn : (l.map (·.k)).Nodup) {x : DN} (hx : x ∈ l) : lk (kvs l) x.k = some x.v := lk_some (by rw [kvs_fst]; exact hn) (List.mem_map.2 ⟨x, hx, rfl⟩)
/-- What a step leaves. -/
def Stepped (seed : Int) (d d' : DS) : Prop := DS.Ok seed d' ∧ d'.nodes.Perm d.nodes
theorem DS.Ok.of_perm {seed : Int} {d d' : DS} (h : DS.Ok seed d) (hp : d'.nodes.Perm d.nodes) (h0 : Half seed d'.s d'.c)
    (h1 : ∀ e, d'.sec = some e → Half seed e.s e.c ∧ e.mv < d'.c.length ∧ ∀ i, (h : i < d'.c.length) → i < e.mv → d'.c[i] = []) (ha : ∀ e, d'.sec = some e → e.s = d'.s + 1 ∨ d'.s = e.s + 1) : DS.Ok seed d' :=
  ⟨h0, h1, ((hp.map _).nodup_iff).2 h.nd, by rw [hp.length_eq]; exact h.big, fun x hx => h.ks x (hp.mem_iff.1 hx), ha⟩
theorem stepped_two {seed : Int} {s g : Nat} {c ec : List (List DN)} {e : DS2} (hok : DS.Ok seed ⟨s, g, c, some e⟩) (hi : e.mv < c.length) (H : Half seed e.s ec) (hp : ec.flatten.Perm (c[e.mv] ++ e.c.flatten)) (hne : e.mv + 1 < c.length) :
    Stepped seed ⟨s, g, c, some e⟩ ⟨s, g, c.set e.mv [], some { e with c := ec, mv := e.mv + 1 }⟩ := by
  have hpp : (DS.nodes ⟨s, g, c.set e.mv [], some { e with c := ec, mv := e.mv + 1 }⟩).Perm (DS.nodes ⟨s, g, c, some e⟩) := by
    show ((c.set e.mv []).flatten ++ ec.flatten).Perm (c.flatten ++ e.c.flatten)
    refine ((flatten_set hi []).append hp).trans ?_
    rw [List.nil_append]
    refine List.Perm.trans ?_ ((flatten_at hi).symm.append_right _)
    rw [← List.append_assoc]
    exact List.perm_append_comm.append_right _
  refine ⟨hok.of_perm hpp (hok.h0.set (by simp)) ?_ (by rintro e' he'; simp only [Option.some.injEq] at he'; subst he'; exact hok.ad e rfl), hpp⟩
  rintro e' he'
  simp only [Option.some.injEq] at he'
  subst he'
  refine ⟨H, by simpa using hne, fun i h hlt => ?_⟩
  simp only [List.length_set] at h
  by_cases e1 : e.mv = i
  · subst e1; rw [List.getElem_set_self]
  · rw [List.getElem_set_ne e1]
    exact (hok.h1 e rfl).2.2 i h (by simp only at hlt; omega)
theorem stepped_one {seed : Int} {s g : Nat} {c ec : List (List DN)} {e : DS2} (hok : DS.Ok seed ⟨s, g, c, some e⟩) (hi : e.mv < c.length) (H : Half seed e.s ec) (hp : ec.flatten.Perm (c[e.mv] ++ e.c.flatten)) (he : e.mv + 1 = c.length) :
    Stepped seed ⟨s, g, c, some e⟩ ⟨e.s, e.g, ec, none⟩ := by
  have h0 : (c.eraseIdx e.mv).flatten = [] := by
    rw [List.flatten_eq_nil_iff]
    intro l hl
    rw [List.mem_eraseIdx_iff_getElem] at hl
    obtain ⟨j, hj, hne, rfl⟩ := hl
    exact (hok.h1 e rfl).2.2 j hj (by omega)
  have hpp : (DS.nodes ⟨e.s, e.g, ec, none⟩).Perm (DS.nodes ⟨s, g, c, some e⟩) := by
    show (ec.flatten ++ []).Perm (c.flatten ++ e.c.flatten)
    rw [List.append_nil]
    refine hp.trans ?_
    have := flatten_at hi
    rw [h0, List.append_nil] at this
    exact this.symm.append_right _
  exact ⟨hok.of_perm hpp H (by rintro e' he'; cases he') (by rintro e' he'; cases he'), hpp⟩
theorem front_half {seed : Int} {b : Nat} {c : List (List DN)} (H : Half seed b c) (x : DN) : Half seed b (c.set (plOf seed x.k b) (x :: c[plOf seed x.k b]'(H.lt x.k))) ∧
    (c.set (plOf seed x.k b) (x :: c[plOf seed x.k b]'(H.lt x.k))).flatten.Perm (x :: c.flatten) := by
  refine ⟨H.set ?_, (flatten_set (H.lt x.k) _).trans (((flatten_at (H.lt x.k)).symm).cons x)⟩
  intro y hy
  rcases List.mem_cons.1 hy with rfl | hy
  · rfl
  · exact H.pl _ _ y hy
theorem era_perm {l l' : List (ByteArray × Value)} (h : l.Perm l') (k : ByteArray) : (era l k).Perm (era l' k) := h.filter _
theorem era_off {l : List DN} {k : ByteArray} (h : ∀ x ∈ l, x.k ≠ k) : era (kvs l) k = kvs l := List.filter_eq_self.2 fun p hp => by
  obtain ⟨x, hx, rfl⟩ := List.mem_map.1 hp
  simpa using h x hx
theorem era_kvs {l M : List DN} {x : DN} (hp : l.Perm (x :: M)) (hn : (l.map (·.k)).Nodup) : (era (kvs l) x.k).Perm (kvs M) := by
  have hn2 : ((x :: M).map (·.k)).Nodup := ((hp.map _).nodup_iff).1 hn
  rw [List.map_cons, List.nodup_cons] at hn2
  refine (era_perm (hp.map _) x.k).trans ?_
  show (List.filter _ ((x.k, x.v) :: kvs M)).Perm _
  rw [List.filter_cons_of_neg (by simp)]
  have := era_off (l := M) (k := x.k) (fun y hy e => hn2.1 (List.mem_map.2 ⟨y, hy, e⟩))
  unfold era at this
  rw [this]
theorem ins_kvs {l l' M : List DN} {x x' : DN} (hp : l.Perm (x :: M)) (hn : (l.map (·.k)).Nodup) (hp' : l'.Perm (x' :: M)) (hk : x'.k = x.k) : (kvs l').Perm (ins (kvs l) x.k x'.v) := by
  refine (hp'.map _).trans ?_
  show ((x'.k, x'.v) :: kvs M).Perm ((x.k, x'.v) :: era (kvs l) x.k)
  rw [hk]
  exact (era_kvs hp hn).symm.cons _
theorem ins_new_kvs {l l' : List DN} {x : DN} (hp' : l'.Perm (x :: l)) (h : ∀ y ∈ l, y.k ≠ x.k) : (kvs l').Perm (ins (kvs l) x.k x.v) := by
  refine (hp'.map _).trans ?_
  show ((x.k, x.v) :: kvs l).Perm ((x.k, x.v) :: era (kvs l) x.k)
  rw [era_off h]
/-- A node, and what leads to it. -/
def Hit (d : DS) (a : Addr) (x : DN) : Prop :=
  (∃ i pre post, ∃ h : i < d.c.length, d.c[i] = pre ++ x :: post ∧ a = lnk ⟨d.g, i, none⟩ pre) ∨
  (∃ e i pre post, d.sec = some e ∧ ∃ h : i < e.c.length, e.c[i] = pre ++ x :: post ∧ a = lnk ⟨e.g, i, none⟩ pre)
theorem flatten_mid {c : List (List DN)} {i : Nat} (h : i < c.length) {pre post : List DN} {x : DN} (e : c[i] = pre ++ x :: post) : c.flatten.Perm (x :: (pre ++ post ++ (c.eraseIdx i).flatten)) := by
  refine (flatten_at h).trans ?_
  rw [e]
  exact (List.perm_middle (l₁ := pre) (l₂ := post) (a := x)).append_right _
theorem flatten_mid_set {c : List (List DN)} {i : Nat} (h : i < c.length) {pre post : List DN} (x : DN) : (c.set i (pre ++ x :: post)).flatten.Perm (x :: (pre ++ post ++ (c.eraseIdx i).flatten)) := by
  refine (flatten_set h _).trans ?_
  exact (List.perm_middle (l₁ := pre) (l₂ := post) (a := x)).append_right _
/-- A table in which one node of a chain is another one, or is gone. -/
theorem half_swap {seed : Int} {b : Nat} {c : List (List DN)} (H : Half seed b c) {i : Nat} (h : i < c.length) {pre post l : List DN} {x : DN} (e : c[i] = pre ++ x :: post) (hl : ∀ y ∈ l, y.k = x.k) : Half seed b (c.set i (pre ++ l ++ post)) :=
  H.set fun y hy => by
    have hm : ∀ z ∈ pre ++ x :: post, plOf seed z.k b = i := fun z hz => H.pl i h z (by rw [e]; exact hz)
    rcases List.mem_append.1 hy with hy | hy
    · rcases List.mem_append.1 hy with hy | hy
      · exact hm y (by simp [hy])
      · rw [hl y hy]; exact hm x (by simp)
    · exact hm y (by simp [hy])
theorem ok_value {seed : Int} {d d' : DS} {M : List DN} {x x' : DN} (h : DS.Ok seed d) (hp : d.nodes.Perm (x :: M)) (hp' : d'.nodes.Perm (x' :: M)) (hk : x'.k = x.k) (h0 : Half seed d'.s d'.c)
    (h1 : ∀ e, d'.sec = some e → Half seed e.s e.c ∧ e.mv < d'.c.length ∧ ∀ i, (h : i < d'.c.length) → i < e.mv → d'.c[i] = []) (ha : ∀ e, d'.sec = some e → e.s = d'.s + 1 ∨ d'.s = e.s + 1) : DS.Ok seed d' where
  h0 := h0
  h1 := h1
  ad := ha
  nd := by
    have := ((hp.map (·.k)).nodup_iff).1 h.nd
    refine ((hp'.map (·.k)).nodup_iff).2 ?_
    rw [List.map_cons] at this ⊢
    rw [hk]; exact this
  big := by have := h.big; have := hp.length_eq; have := hp'.length_eq; simp at *; omega
  ks := fun y hy => by
    rcases List.mem_cons.1 (hp'.mem_iff.1 hy) with rfl | hy
    · rw [hk]; exact h.ks x (hp.mem_iff.2 (by simp))
    · exact h.ks y (hp.mem_iff.2 (by simp [hy]))
theorem ok_less {seed : Int} {d d' : DS} {x : DN} (h : DS.Ok seed d) (hp : d.nodes.Perm (x :: d'.nodes)) (h0 : Half seed d'.s d'.c)
    (h1 : ∀ e, d'.sec = some e → Half seed e.s e.c ∧ e.mv < d'.c.length ∧ ∀ i, (h : i < d'.c.length) → i < e.mv → d'.c[i] = []) (ha : ∀ e, d'.sec = some e → e.s = d'.s + 1 ∨ d'.s = e.s + 1) : DS.Ok seed d' where
  h0 := h0
  h1 := h1
  ad := ha
  nd := by
    have := ((hp.map (·.k)).nodup_iff).1 h.nd
    rw [List.map_cons, List.nodup_cons] at this
    exact this.2
  big := by have := h.big; have := hp.length_eq; simp at *; omega
  ks := fun y hy => h.ks y (hp.mem_iff.2 (by simp [hy]))
theorem ok_more {seed : Int} {d d' : DS} {x : DN} (h : DS.Ok seed d) (hp : d'.nodes.Perm (x :: d.nodes)) (hk : ∀ y ∈ d.nodes, y.k ≠ x.k) (hs : x.k.size ≤ maxLen) (hb : d.nodes.length < 1000000000000) (h0 : Half seed d'.s d'.c)
    (h1 : ∀ e, d'.sec = some e → Half seed e.s e.c ∧ e.mv < d'.c.length ∧ ∀ i, (h : i < d'.c.length) → i < e.mv → d'.c[i] = []) (ha : ∀ e, d'.sec = some e → e.s = d'.s + 1 ∨ d'.s = e.s + 1) : DS.Ok seed d' where
  h0 := h0
  h1 := h1
  ad := ha
  nd := by
    refine ((hp.map (·.k)).nodup_iff).2 ?_
    rw [List.map_cons, List.nodup_cons]
    refine ⟨fun hm => ?_, h.nd⟩
    obtain ⟨y, hy, e⟩ := List.mem_map.1 hm
    exact hk y hy e
  big := by have := hp.length_eq; simp at this; omega
  ks := fun y hy => by
    rcases List.mem_cons.1 (hp.mem_iff.1 hy) with rfl | hy
    · exact hs
    · exact h.ks y hy
/-- A node of half 0 is another one. -/
theorem hit0_ok {seed : Int} {s g : Nat} {c : List (List DN)} {sec : Option DS2} (h : DS.Ok seed ⟨s, g, c, sec⟩) {i : Nat} (hi : i < c.length) {pre post : List DN} {x : DN} (hc : c[i] = pre ++ x :: post) (l : List DN) (hl : ∀ y ∈ l, y.k = x.k) :
    Half seed s (c.set i (pre ++ l ++ post)) ∧ ∀ e, sec = some e → Half seed e.s e.c ∧ e.mv < (c.set i (pre ++ l ++ post)).length ∧ ∀ j, (hj : j < (c.set i (pre ++ l ++ post)).length) → j < e.mv → (c.set i (pre ++ l ++ post))[j] = [] := by
  refine ⟨half_swap h.h0 hi hc hl, fun e he => ⟨(h.h1 e he).1, by rw [List.length_set]; exact (h.h1 e he).2.1, fun j hj hm => ?_⟩⟩
  rw [List.length_set] at hj
  have h2 := (h.h1 e he).2.2 j hj hm
  by_cases e1 : i = j
  · subst e1
    have h2' : c[i] = [] := h2
    rw [hc] at h2'
    simp at h2'
  · rw [List.getElem_set_ne e1]; exact h2
theorem hit1_ok {seed : Int} {s g : Nat} {c : List (List DN)} {e : DS2} (h : DS.Ok seed ⟨s, g, c, some e⟩) (ec : List (List DN)) (H : Half seed e.s ec) :
    Half seed s c ∧ ∀ e', some { e with c := ec } = some e' → Half seed e'.s e'.c ∧ e'.mv < c.length ∧ ∀ j, (hj : j < c.length) → j < e'.mv → c[j] = [] := by
  refine ⟨h.h0, fun e' he => ?_⟩
  simp only [Option.some.injEq] at he
  subst he
  exact ⟨H, (h.h1 e rfl).2⟩
/-- A table that is parted now. -/
theorem parted_ok {seed : Int} {d : DS} (h : DS.Ok seed d) (hs : d.sec = none) {b : Nat} (b0 : 2 ≤ b) (b1 : b ≤ 16) (hab : b = d.s + 1 ∨ d.s = b + 1) (g' : Nat) :
    DS.Ok seed ⟨d.s, d.g, d.c, some ⟨b, g', List.replicate (2 ^ b) [], 0⟩⟩ ∧ (DS.nodes ⟨d.s, d.g, d.c, some ⟨b, g', List.replicate (2 ^ b) [], 0⟩⟩) = d.nodes := by
  have e : (DS.nodes ⟨d.s, d.g, d.c, some ⟨b, g', List.replicate (2 ^ b) [], 0⟩⟩) = d.nodes := by
    unfold DS.nodes DS.nodes2
    rw [hs]
    simp
  refine ⟨h.of_perm (by rw [e]) h.h0 ?_ (by rintro e' he; simp only [Option.some.injEq] at he; subst he; exact hab), e⟩
  intro e' he
  simp only [Option.some.injEq] at he
  subst he
  refine ⟨Half.made seed b0 b1, ?_, fun i _ hi => by simp at hi⟩
  show 0 < d.c.length
  rw [h.h0.len]
  exact Nat.pos_of_ne_zero (by simp)
end Go.Sl
/-! ### DtI641 -/
namespace Go.Sl.DI64
open Go.RowKit Go.Proofs Go.Sl
set_option linter.unusedVariables false
set_option linter.unusedSimpArgs false
set_option maxRecDepth 100000

abbrev TN : Nat := 124
abbrev TP : Nat := 122
/-- A table of one half. -/
def tab1 (t : Nat) (seed : Int) (s g : Nat) (c : List (List DN)) (n : Nat) : HP :=
  pts t (.cells #[.int .u64 seed, .int .i64 s, .slice (some ⟨g, 0, none⟩) c.length c.length, .int .i64 0, .slice none 0 0, .int .i64 0, .bool false, .int .i64 n] 119 (0, 0)) * plc TN TP g c
/-- A parted table. -/
def tab2 (t : Nat) (seed : Int) (s g : Nat) (c : List (List DN)) (e : DS2) (n : Nat) : HP :=
  pts t (.cells #[.int .u64 seed, .int .i64 s, .slice (some ⟨g, 0, none⟩) c.length c.length, .int .i64 e.s, .slice (some ⟨e.g, 0, none⟩) e.c.length e.c.length, .int .i64 e.mv, .bool true, .int .i64 n] 119 (0, 0)) * (plc TN TP g c * plc TN TP e.g e.c)
def tabN (t : Nat) (seed : Int) (d : DS) (n : Nat) : HP := match d.sec with
  | none => tab1 t seed d.s d.g d.c n
  | some e => tab2 t seed d.s d.g d.c e n
abbrev tabD (t : Nat) (seed : Int) (d : DS) : HP := tabN t seed d d.nodes.length
section
variable {w : World} {b : Nat} {x0 x1 x2 x3 x4 x5 x6 x7 : Value} {t : TypeId}
theorem cells8 (h : w.heap[b]? = some (.cells #[x0, x1, x2, x3, x4, x5, x6, x7] t (0, 0))) : w.cell? ⟨b, 0, none⟩ = some x0 ∧ w.cell? ⟨b, 1, none⟩ = some x1 ∧ w.cell? ⟨b, 2, none⟩ = some x2 ∧ w.cell? ⟨b, 3, none⟩ = some x3 ∧ w.cell? ⟨b, 4, none⟩ = some x4 ∧ w.cell? ⟨b, 5, none⟩ = some x5 ∧ w.cell? ⟨b, 6, none⟩ = some x6 ∧ w.cell? ⟨b, 7, none⟩ = some x7 ∧ ∀ i, w.frozen? ⟨b, i, none⟩ = false :=
  ⟨cell_of h 0 rfl, cell_of h 1 rfl, cell_of h 2 rfl, cell_of h 3 rfl, cell_of h 4 rfl, cell_of h 5 rfl, cell_of h 6 rfl, cell_of h 7 rfl, frz_of h⟩
end
theorem calls_drew {w0 w : World} {A : HP} {f : Nat} {args : Array Value} {e0 : Ending} {Q : Ending → World → Prop} (S : Sat w0 w A) (h : Calls Try.prog f args w fun e w' => e = e0 ∧ ∃ n, w' = w.drewN n) (k : ∀ w', Sat w0 w' A → Q e0 w') : Calls Try.prog f args w Q := by
  refine h.mono ?_
  rintro e w' ⟨rfl, n, rfl⟩
  exact k _ (S.below (below_drewN (Below.refl _ _) n))
theorem calls_symm {w : World} {f : Nat} {args : Array Value} {e0 : Ending} (h : Calls Try.prog f args w fun e w' => e = e0 ∧ w = w') : Calls Try.prog f args w fun e w' => e = e0 ∧ w' = w := h.mono fun _ _ ⟨a, b⟩ => ⟨a, b.symm⟩
theorem hplace_calls' {h p : Int} {b : Nat} (e : p = h % 2 ^ b) (hr : 0 ≤ h ∧ h < 2 ^ 64) (h1 : b ≤ 16) (w : World) : Calls Try.prog 95 #[.int .u64 h, .int .i64 b] w fun en w' => en = .returned (.int .i64 p) ∧ w' = w := by
  rw [e]; exact calls_symm (hplace_calls h b hr.1 hr.2 h1 w)
theorem hof_calls' {seed H : Int} {key : ByteArray} (e : H = hof seed key) (hk : key.size ≤ maxLen) (w : World) : Calls Try.prog 88 #[.int .u64 seed, .string key] w fun en w' => en = .returned (.int .u64 H) ∧ w' = w := by
  rw [e]; exact calls_symm (hof_calls seed key w hk)
theorem iaP (w : World) (g n n2 p : Nat) (hlt : (p : Int) < (n : Int)) (h0 : (0 : Int) ≤ (p : Int)) : (Instr.indexAt 114 (.slice (some ⟨g, 0, none⟩) n n2) (.int .i64 p)).run Try.prog w = Result.ok (.pointer (some ⟨g, p, none⟩)) w := by
  go_simp
theorem exec_ia {P : Program} {ρ : Operand → Value} {o : Oper} {w : World} {t : TypeId} {x ix : Operand} {u : Value} (ho : o.op = .indexAddr t x ix) (h : (Instr.indexAt t (ρ x) (ρ ix)).run P w = Result.ok u w) : (execOp ρ o).run P w = Result.ok (.value u) w := by
  unfold execOp
  rw [ho]
  simp [h, Result.andThen]
/-- 'slot', of half 0. -/
theorem slot0 {w : World} {t s g n n2 : Nat} {seed : Int} {key : ByteArray} (hk : key.size ≤ maxLen) (hs : s ≤ 16) (hn : n = 2 ^ s) (c0 : w.cell? ⟨t, 0, none⟩ = some (.int .u64 seed)) (c1 : w.cell? ⟨t, 1, none⟩ = some (.int .i64 s)) (c2 : w.cell? ⟨t, 2, none⟩ = some (.slice (some ⟨g, 0, none⟩) n n2)) :
    Calls Try.prog 84 #[pt t, .int .i64 0, .string key] w fun en w' => en = .returned (.pointer (some ⟨g, plOf seed key s, none⟩)) ∧ ∃ n, w' = w.drewN n := by
  have hlt : (plOf seed key s : Int) < (n : Int) := by have := plOf_lt seed key hs; omega
  have h0 : (0 : Int) ≤ plOf seed key s := by omega
  have hc := plOf_cast seed key hs
  have hr := hof_range seed key
  generalize plOf seed key s = p at *
  obtain ⟨H, hH⟩ : ∃ H, H = hof seed key := ⟨_, rfl⟩
  rw [← hH] at hc hr
  have HC := Lib.hid hc
  have HR := Lib.hid hr
  have HH := Lib.hid hH
  have HK := Lib.hid hk
  clear hk hn hc hr hH
  have hd : w.drew = w.drewN 1 := rfl
  have HD := Lib.hid hd
  clear hd
  go_enter Try.func84, Try.ntmps84
  go_wp2_with fail
  refine wp_region_noPanic ?_
  refine wp_region_held_drew (S := (fun w' => w'.cell? ⟨t, 0, none⟩ = some (.int .u64 seed) ∧ w'.cell? ⟨t, 1, none⟩ = some (.int .i64 s) ∧ w'.cell? ⟨t, 2, none⟩ = some (.slice (some ⟨g, 0, none⟩) n n2))) (by kernel_rfl) ?_ (fun hHeld => ?_)
  · exact ⟨c0, c1, c2⟩
  refine wpAnyH_take (i := 0) (v := ?_) (by simp only [List.getElem?_toArray, List.getElem?_cons_succ, List.getElem?_cons_zero]; rfl) (by kernel_rfl) (by kernel_rfl) (by kernel_rfl) (fun _ _ _ h => h) (Or.inl ⟨by rfl, ?_⟩) hHeld ?_
  rotate_left
  · (intro w hSw; (try dsimp only at hSw); go_simp; try with_reducible rfl)
  try simp only [Act.put, List.setIfInBounds_toArray, List.set_cons_zero, List.set_cons_succ]
  refine wpAnyH_take (i := 1) (v := ?_) (by simp only [List.getElem?_toArray, List.getElem?_cons_succ, List.getElem?_cons_zero]; rfl) (by kernel_rfl) (by kernel_rfl) (by kernel_rfl) (fun _ _ _ h => h) (Or.inl ⟨by rfl, ?_⟩) hHeld ?_
  rotate_left
  · (intro w hSw; (try dsimp only at hSw); go_simp; try with_reducible rfl)
  try simp only [Act.put, List.setIfInBounds_toArray, List.set_cons_zero, List.set_cons_succ]
  refine wpAnyH_take (i := 2) (v := ?_) (by simp only [List.getElem?_toArray, List.getElem?_cons_succ, List.getElem?_cons_zero]; rfl) (by kernel_rfl) (by kernel_rfl) (by kernel_rfl) (fun _ _ _ h => h) (Or.inl ⟨by rfl, ?_⟩) hHeld ?_
  rotate_left
  · (intro w hSw; (try dsimp only at hSw); go_simp; try with_reducible rfl)
  try simp only [Act.put, List.setIfInBounds_toArray, List.set_cons_zero, List.set_cons_succ]
  refine wpAnyH_take (i := 3) (v := ?_) (by simp only [List.getElem?_toArray, List.getElem?_cons_succ, List.getElem?_cons_zero]; rfl) (by kernel_rfl) (by kernel_rfl) (by kernel_rfl) (fun _ _ _ h => h) (Or.inl ⟨by rfl, ?_⟩) hHeld ?_
  rotate_left
  · (intro w hSw; (try dsimp only at hSw); go_simp; try with_reducible rfl)
  try simp only [Act.put, List.setIfInBounds_toArray, List.set_cons_zero, List.set_cons_succ]
  refine wpAnyH_take (i := 4) (v := ?_) (by simp only [List.getElem?_toArray, List.getElem?_cons_succ, List.getElem?_cons_zero]; rfl) (by kernel_rfl) (by kernel_rfl) (by kernel_rfl) (fun _ _ _ h => h) (Or.inl ⟨by rfl, ?_⟩) hHeld ?_
  rotate_left
  · (intro w hSw; (try dsimp only at hSw); go_simp; try with_reducible rfl)
  try simp only [Act.put, List.setIfInBounds_toArray, List.set_cons_zero, List.set_cons_succ]
  refine wpAnyH_take (i := 5) (v := ?_) (by simp only [List.getElem?_toArray, List.getElem?_cons_succ, List.getElem?_cons_zero]; rfl) (by kernel_rfl) (by kernel_rfl) (by kernel_rfl) (fun _ _ _ h => h) (Or.inl ⟨by rfl, ?_⟩) hHeld ?_
  rotate_left
  · (intro w hSw; (try dsimp only at hSw); go_simp; try with_reducible rfl)
  try simp only [Act.put, List.setIfInBounds_toArray, List.set_cons_zero, List.set_cons_succ]
  refine wpAnyH_take (i := 6) (v := ?_) (by simp only [List.getElem?_toArray, List.getElem?_cons_succ, List.getElem?_cons_zero]; rfl) (by kernel_rfl) (by kernel_rfl) (by kernel_rfl) (fun _ _ _ h => h) (Or.inl ⟨by rfl, ?_⟩) hHeld ?_
  rotate_left
  · (intro w hSw; (try dsimp only at hSw); go_simp; try with_reducible rfl)
  try simp only [Act.put, List.setIfInBounds_toArray, List.set_cons_zero, List.set_cons_succ]
  refine wpAnyH_take (i := 7) (v := ?_) (by simp only [List.getElem?_toArray, List.getElem?_cons_succ, List.getElem?_cons_zero]; rfl) (by kernel_rfl) (by kernel_rfl) (by kernel_rfl) (fun _ _ _ h => h) (Or.inl ⟨by rfl, ?_⟩) hHeld ?_
  rotate_left
  · (intro w hSw; (try dsimp only at hSw); go_simp; try with_reducible rfl)
  try simp only [Act.put, List.setIfInBounds_toArray, List.set_cons_zero, List.set_cons_succ]
  refine wpAnyH_take (i := 8) (v := ?_) (by simp only [List.getElem?_toArray, List.getElem?_cons_succ, List.getElem?_cons_zero]; rfl) (by kernel_rfl) (by kernel_rfl) (by kernel_rfl) (fun _ _ _ h => h) (Or.inl ⟨by rfl, ?_⟩) hHeld ?_
  rotate_left
  · (intro w hSw; (try dsimp only at hSw); go_simp; try with_reducible rfl)
  try simp only [Act.put, List.setIfInBounds_toArray, List.set_cons_zero, List.set_cons_succ]
  refine wpAnyH_take (i := 10) (v := ?_) (by simp only [List.getElem?_toArray, List.getElem?_cons_succ, List.getElem?_cons_zero]; rfl) (by kernel_rfl) (by kernel_rfl) (by kernel_rfl) (fun _ _ _ h => h) (Or.inl ⟨by rfl, ?_⟩) hHeld ?_
  rotate_left
  · (intro w hSw; (try dsimp only at hSw); go_simp; try with_reducible rfl)
  try simp only [Act.put, List.setIfInBounds_toArray, List.set_cons_zero, List.set_cons_succ]
  refine wpAnyH_take (i := 11) (v := ?_) (by simp only [List.getElem?_toArray, List.getElem?_cons_succ, List.getElem?_cons_zero]; rfl) (by kernel_rfl) (by kernel_rfl) (by kernel_rfl) (fun _ _ _ h => h) (Or.inl ⟨by rfl, ?_⟩) hHeld ?_
  rotate_left
  · (intro w hSw; (try dsimp only at hSw); go_simp; try with_reducible rfl)
  try simp only [Act.put, List.setIfInBounds_toArray, List.set_cons_zero, List.set_cons_succ]
  refine wpAnyH_take (i := 12) (v := ?_) (by simp only [List.getElem?_toArray, List.getElem?_cons_succ, List.getElem?_cons_zero]; rfl) (by kernel_rfl) (by kernel_rfl) (by kernel_rfl) (fun _ _ _ h => h) (Or.inl ⟨by rfl, ?_⟩) hHeld ?_
  rotate_left
  · (intro w hSw; (try dsimp only at hSw); go_simp; try with_reducible rfl)
  try simp only [Act.put, List.setIfInBounds_toArray, List.set_cons_zero, List.set_cons_succ]
  refine wpAnyH_take (i := 13) (v := ?_) (by simp only [List.getElem?_toArray, List.getElem?_cons_succ, List.getElem?_cons_zero]; rfl) (by kernel_rfl) (by kernel_rfl) (by kernel_rfl) (fun _ _ _ h => h) (Or.inl ⟨by rfl, ?_⟩) hHeld ?_
  rotate_left
  · (intro w hSw; (try dsimp only at hSw); go_simp; try with_reducible rfl)
  try simp only [Act.put, List.setIfInBounds_toArray, List.set_cons_zero, List.set_cons_succ]
  refine wpAnyH_ready (rs := [9]) (by kernel_rfl) (by simp) ?_
  refine AllReadyH.cons rfl (fun K hK => ?_) AllReadyH.nil
  go_simp
  (refine (hof_calls' HH.out HK.out _).mono ?_; rintro en w' ⟨rfl, rfl⟩; go_wp2_with fail)
  refine hK.out _ _ ?_ (fun hHeld => ?_)
  · exact hHeld
  clear hK K
  try simp only [Act.put, List.setIfInBounds_toArray, List.set_cons_zero, List.set_cons_succ]
  refine wpAnyH_ready (rs := [14]) (by kernel_rfl) (by simp) ?_
  refine AllReadyH.cons rfl (fun K hK => ?_) AllReadyH.nil
  go_simp
  (refine (hplace_calls' HC.out HR.out hs _).mono ?_; rintro en w' ⟨rfl, rfl⟩; go_wp2_with fail)
  refine hK.out _ _ ?_ (fun hHeld => ?_)
  · exact hHeld
  clear hK K
  try simp only [Act.put, List.setIfInBounds_toArray, List.set_cons_zero, List.set_cons_succ]
  refine wpAnyH_take (i := 15) (v := (.pointer (some ⟨g, p, none⟩))) (by simp only [List.getElem?_toArray, List.getElem?_cons_succ, List.getElem?_cons_zero]; rfl) (by kernel_rfl) (by kernel_rfl) (by kernel_rfl) (fun _ _ _ h => h) (Or.inl ⟨by rfl, ?_⟩) hHeld ?_
  · (intro w hSw; exact exec_ia rfl (iaP w g n n2 p hlt h0))
  try simp only [Act.put, List.setIfInBounds_toArray, List.set_cons_zero, List.set_cons_succ]
  refine wpAnyH_take (i := 16) (v := ?_) (by simp only [List.getElem?_toArray, List.getElem?_cons_succ, List.getElem?_cons_zero]; rfl) (by kernel_rfl) (by kernel_rfl) (by kernel_rfl) (fun _ _ _ h => h) (Or.inl ⟨by rfl, ?_⟩) hHeld ?_
  rotate_left
  · (intro w hSw; (try dsimp only at hSw); go_simp; try with_reducible rfl)
  try simp only [Act.put, List.setIfInBounds_toArray, List.set_cons_zero, List.set_cons_succ]
  refine wpAnyH_done (by kernel_rfl) ?_ _
  refine NoPanic.normal ?_
  go_wp2_with fail
  go_ret
  exact ⟨rfl, 1, rfl⟩
/-- 'slot', of half 1. -/
theorem slot1 {w : World} {t s g n n2 : Nat} {seed : Int} {key : ByteArray} (hk : key.size ≤ maxLen) (hs : s ≤ 16) (hn : n = 2 ^ s) (c0 : w.cell? ⟨t, 0, none⟩ = some (.int .u64 seed)) (c1 : w.cell? ⟨t, 3, none⟩ = some (.int .i64 s)) (c2 : w.cell? ⟨t, 4, none⟩ = some (.slice (some ⟨g, 0, none⟩) n n2)) :
    Calls Try.prog 84 #[pt t, .int .i64 1, .string key] w fun en w' => en = .returned (.pointer (some ⟨g, plOf seed key s, none⟩)) ∧ ∃ n, w' = w.drewN n := by
  have hlt : (plOf seed key s : Int) < (n : Int) := by have := plOf_lt seed key hs; omega
  have h0 : (0 : Int) ≤ plOf seed key s := by omega
  have hc := plOf_cast seed key hs
  have hr := hof_range seed key
  generalize plOf seed key s = p at *
  obtain ⟨H, hH⟩ : ∃ H, H = hof seed key := ⟨_, rfl⟩
  rw [← hH] at hc hr
  have HC := Lib.hid hc
  have HR := Lib.hid hr
  have HH := Lib.hid hH
  have HK := Lib.hid hk
  clear hk hn hc hr hH
  have hd : w.drew = w.drewN 1 := rfl
  have HD := Lib.hid hd
  clear hd
  go_enter Try.func84, Try.ntmps84
  go_wp2_with fail
  refine wp_region_noPanic ?_
  refine wp_region_held_drew (S := (fun w' => w'.cell? ⟨t, 0, none⟩ = some (.int .u64 seed) ∧ w'.cell? ⟨t, 3, none⟩ = some (.int .i64 s) ∧ w'.cell? ⟨t, 4, none⟩ = some (.slice (some ⟨g, 0, none⟩) n n2))) (by kernel_rfl) ?_ (fun hHeld => ?_)
  · exact ⟨c0, c1, c2⟩
  refine wpAnyH_take (i := 0) (v := ?_) (by simp only [List.getElem?_toArray, List.getElem?_cons_succ, List.getElem?_cons_zero]; rfl) (by kernel_rfl) (by kernel_rfl) (by kernel_rfl) (fun _ _ _ h => h) (Or.inl ⟨by rfl, ?_⟩) hHeld ?_
  rotate_left
  · (intro w hSw; (try dsimp only at hSw); go_simp; try with_reducible rfl)
  try simp only [Act.put, List.setIfInBounds_toArray, List.set_cons_zero, List.set_cons_succ]
  refine wpAnyH_take (i := 1) (v := ?_) (by simp only [List.getElem?_toArray, List.getElem?_cons_succ, List.getElem?_cons_zero]; rfl) (by kernel_rfl) (by kernel_rfl) (by kernel_rfl) (fun _ _ _ h => h) (Or.inl ⟨by rfl, ?_⟩) hHeld ?_
  rotate_left
  · (intro w hSw; (try dsimp only at hSw); go_simp; try with_reducible rfl)
  try simp only [Act.put, List.setIfInBounds_toArray, List.set_cons_zero, List.set_cons_succ]
  refine wpAnyH_take (i := 2) (v := ?_) (by simp only [List.getElem?_toArray, List.getElem?_cons_succ, List.getElem?_cons_zero]; rfl) (by kernel_rfl) (by kernel_rfl) (by kernel_rfl) (fun _ _ _ h => h) (Or.inl ⟨by rfl, ?_⟩) hHeld ?_
  rotate_left
  · (intro w hSw; (try dsimp only at hSw); go_simp; try with_reducible rfl)
  try simp only [Act.put, List.setIfInBounds_toArray, List.set_cons_zero, List.set_cons_succ]
  refine wpAnyH_take (i := 3) (v := ?_) (by simp only [List.getElem?_toArray, List.getElem?_cons_succ, List.getElem?_cons_zero]; rfl) (by kernel_rfl) (by kernel_rfl) (by kernel_rfl) (fun _ _ _ h => h) (Or.inl ⟨by rfl, ?_⟩) hHeld ?_
  rotate_left
  · (intro w hSw; (try dsimp only at hSw); go_simp; try with_reducible rfl)
  try simp only [Act.put, List.setIfInBounds_toArray, List.set_cons_zero, List.set_cons_succ]
  refine wpAnyH_take (i := 4) (v := ?_) (by simp only [List.getElem?_toArray, List.getElem?_cons_succ, List.getElem?_cons_zero]; rfl) (by kernel_rfl) (by kernel_rfl) (by kernel_rfl) (fun _ _ _ h => h) (Or.inl ⟨by rfl, ?_⟩) hHeld ?_
  rotate_left
  · (intro w hSw; (try dsimp only at hSw); go_simp; try with_reducible rfl)
  try simp only [Act.put, List.setIfInBounds_toArray, List.set_cons_zero, List.set_cons_succ]
  refine wpAnyH_take (i := 5) (v := ?_) (by simp only [List.getElem?_toArray, List.getElem?_cons_succ, List.getElem?_cons_zero]; rfl) (by kernel_rfl) (by kernel_rfl) (by kernel_rfl) (fun _ _ _ h => h) (Or.inl ⟨by rfl, ?_⟩) hHeld ?_
  rotate_left
  · (intro w hSw; (try dsimp only at hSw); go_simp; try with_reducible rfl)
  try simp only [Act.put, List.setIfInBounds_toArray, List.set_cons_zero, List.set_cons_succ]
  refine wpAnyH_take (i := 6) (v := ?_) (by simp only [List.getElem?_toArray, List.getElem?_cons_succ, List.getElem?_cons_zero]; rfl) (by kernel_rfl) (by kernel_rfl) (by kernel_rfl) (fun _ _ _ h => h) (Or.inl ⟨by rfl, ?_⟩) hHeld ?_
  rotate_left
  · (intro w hSw; (try dsimp only at hSw); go_simp; try with_reducible rfl)
  try simp only [Act.put, List.setIfInBounds_toArray, List.set_cons_zero, List.set_cons_succ]
  refine wpAnyH_take (i := 7) (v := ?_) (by simp only [List.getElem?_toArray, List.getElem?_cons_succ, List.getElem?_cons_zero]; rfl) (by kernel_rfl) (by kernel_rfl) (by kernel_rfl) (fun _ _ _ h => h) (Or.inl ⟨by rfl, ?_⟩) hHeld ?_
  rotate_left
  · (intro w hSw; (try dsimp only at hSw); go_simp; try with_reducible rfl)
  try simp only [Act.put, List.setIfInBounds_toArray, List.set_cons_zero, List.set_cons_succ]
  refine wpAnyH_take (i := 8) (v := ?_) (by simp only [List.getElem?_toArray, List.getElem?_cons_succ, List.getElem?_cons_zero]; rfl) (by kernel_rfl) (by kernel_rfl) (by kernel_rfl) (fun _ _ _ h => h) (Or.inl ⟨by rfl, ?_⟩) hHeld ?_
  rotate_left
  · (intro w hSw; (try dsimp only at hSw); go_simp; try with_reducible rfl)
  try simp only [Act.put, List.setIfInBounds_toArray, List.set_cons_zero, List.set_cons_succ]
  refine wpAnyH_take (i := 10) (v := ?_) (by simp only [List.getElem?_toArray, List.getElem?_cons_succ, List.getElem?_cons_zero]; rfl) (by kernel_rfl) (by kernel_rfl) (by kernel_rfl) (fun _ _ _ h => h) (Or.inl ⟨by rfl, ?_⟩) hHeld ?_
  rotate_left
  · (intro w hSw; (try dsimp only at hSw); go_simp; try with_reducible rfl)
  try simp only [Act.put, List.setIfInBounds_toArray, List.set_cons_zero, List.set_cons_succ]
  refine wpAnyH_take (i := 11) (v := ?_) (by simp only [List.getElem?_toArray, List.getElem?_cons_succ, List.getElem?_cons_zero]; rfl) (by kernel_rfl) (by kernel_rfl) (by kernel_rfl) (fun _ _ _ h => h) (Or.inl ⟨by rfl, ?_⟩) hHeld ?_
  rotate_left
  · (intro w hSw; (try dsimp only at hSw); go_simp; try with_reducible rfl)
  try simp only [Act.put, List.setIfInBounds_toArray, List.set_cons_zero, List.set_cons_succ]
  refine wpAnyH_take (i := 12) (v := ?_) (by simp only [List.getElem?_toArray, List.getElem?_cons_succ, List.getElem?_cons_zero]; rfl) (by kernel_rfl) (by kernel_rfl) (by kernel_rfl) (fun _ _ _ h => h) (Or.inl ⟨by rfl, ?_⟩) hHeld ?_
  rotate_left
  · (intro w hSw; (try dsimp only at hSw); go_simp; try with_reducible rfl)
  try simp only [Act.put, List.setIfInBounds_toArray, List.set_cons_zero, List.set_cons_succ]
  refine wpAnyH_take (i := 13) (v := ?_) (by simp only [List.getElem?_toArray, List.getElem?_cons_succ, List.getElem?_cons_zero]; rfl) (by kernel_rfl) (by kernel_rfl) (by kernel_rfl) (fun _ _ _ h => h) (Or.inl ⟨by rfl, ?_⟩) hHeld ?_
  rotate_left
  · (intro w hSw; (try dsimp only at hSw); go_simp; try with_reducible rfl)
  try simp only [Act.put, List.setIfInBounds_toArray, List.set_cons_zero, List.set_cons_succ]
  refine wpAnyH_ready (rs := [9]) (by kernel_rfl) (by simp) ?_
  refine AllReadyH.cons rfl (fun K hK => ?_) AllReadyH.nil
  go_simp
  (refine (hof_calls' HH.out HK.out _).mono ?_; rintro en w' ⟨rfl, rfl⟩; go_wp2_with fail)
  refine hK.out _ _ ?_ (fun hHeld => ?_)
  · exact hHeld
  clear hK K
  try simp only [Act.put, List.setIfInBounds_toArray, List.set_cons_zero, List.set_cons_succ]
  refine wpAnyH_ready (rs := [14]) (by kernel_rfl) (by simp) ?_
  refine AllReadyH.cons rfl (fun K hK => ?_) AllReadyH.nil
  go_simp
  (refine (hplace_calls' HC.out HR.out hs _).mono ?_; rintro en w' ⟨rfl, rfl⟩; go_wp2_with fail)
  refine hK.out _ _ ?_ (fun hHeld => ?_)
  · exact hHeld
  clear hK K
  try simp only [Act.put, List.setIfInBounds_toArray, List.set_cons_zero, List.set_cons_succ]
  refine wpAnyH_take (i := 15) (v := (.pointer (some ⟨g, p, none⟩))) (by simp only [List.getElem?_toArray, List.getElem?_cons_succ, List.getElem?_cons_zero]; rfl) (by kernel_rfl) (by kernel_rfl) (by kernel_rfl) (fun _ _ _ h => h) (Or.inl ⟨by rfl, ?_⟩) hHeld ?_
  · (intro w hSw; exact exec_ia rfl (iaP w g n n2 p hlt h0))
  try simp only [Act.put, List.setIfInBounds_toArray, List.set_cons_zero, List.set_cons_succ]
  refine wpAnyH_take (i := 16) (v := ?_) (by simp only [List.getElem?_toArray, List.getElem?_cons_succ, List.getElem?_cons_zero]; rfl) (by kernel_rfl) (by kernel_rfl) (by kernel_rfl) (fun _ _ _ h => h) (Or.inl ⟨by rfl, ?_⟩) hHeld ?_
  rotate_left
  · (intro w hSw; (try dsimp only at hSw); go_simp; try with_reducible rfl)
  try simp only [Act.put, List.setIfInBounds_toArray, List.set_cons_zero, List.set_cons_succ]
  refine wpAnyH_done (by kernel_rfl) ?_ _
  refine NoPanic.normal ?_
  go_wp2_with fail
  go_ret
  exact ⟨rfl, 1, rfl⟩
end Go.Sl.DI64
/-! ### DtI642 -/
namespace Go.Sl.DI64
open Go.RowKit Go.Proofs Go.Sl
set_option linter.unusedVariables false
set_option linter.unusedSimpArgs false
set_option maxRecDepth 100000

/-- Where a key was found. -/
def Found (d : DS) (key : ByteArray) (en : Ending) : Prop :=
  (en = .returned (.pointer none) ∧ ∀ x ∈ d.nodes, x.k ≠ key) ∨
  (∃ i pre x post, ∃ h : i < d.c.length, d.c[i] = pre ++ x :: post ∧ x.k = key ∧ en = .returned (.pointer (some (lnk ⟨d.g, i, none⟩ pre)))) ∨
  (∃ e i pre x post, d.sec = some e ∧ ∃ h : i < e.c.length, e.c[i] = pre ++ x :: post ∧ x.k = key ∧ en = .returned (.pointer (some (lnk ⟨e.g, i, none⟩ pre))))
theorem tab1_open {w0 w : World} {t s g n : Nat} {seed : Int} {c : List (List DN)} {R : HP} (S : Sat w0 w (tab1 t seed s g c n * R)) :
    w.cell? ⟨t, 0, none⟩ = some (.int .u64 seed) ∧ w.cell? ⟨t, 1, none⟩ = some (.int .i64 s) ∧ w.cell? ⟨t, 2, none⟩ = some (.slice (some ⟨g, 0, none⟩) c.length c.length) ∧
    w.cell? ⟨t, 6, none⟩ = some (.bool false) ∧ w.cell? ⟨t, 7, none⟩ = some (.int .i64 n) := by
  unfold tab1 at S
  rw [sep_assoc] at S
  obtain ⟨a0, a1, a2, a3, a4, a5, a6, a7, af⟩ := cells8 S.blk
  exact ⟨a0, a1, a2, a6, a7⟩
theorem tab1_plc {w0 w : World} {t s g n : Nat} {seed : Int} {c : List (List DN)} {R : HP} (S : Sat w0 w (tab1 t seed s g c n * R)) :
    Sat w0 w (plc TN TP g c * (pts t (.cells #[.int .u64 seed, .int .i64 s, .slice (some ⟨g, 0, none⟩) c.length c.length, .int .i64 0, .slice none 0 0, .int .i64 0, .bool false, .int .i64 n] 119 (0, 0)) * R)) := S.cong (by unfold tab1; ac_rfl)
set_option maxHeartbeats 4000000 in
/-- 'find', in a table of one half. -/
theorem find1 {w0 w : World} {t s g n : Nat} {seed : Int} {c : List (List DN)} {key : ByteArray} {R : HP} (hk : key.size ≤ maxLen) (hok : DS.Ok seed ⟨s, g, c, none⟩) (S : Sat w0 w (tab1 t seed s g c n * R)) :
    Calls Try.prog 62 #[pt t, .string key] w fun en w' => Found ⟨s, g, c, none⟩ key en ∧ Sat w0 w' (tab1 t seed s g c n * R) := by
  have HS := Lib.hid S
  have HOK := Lib.hid hok
  have HK := Lib.hid hk
  clear S hok hk
  go_enter Try.func62, Try.ntmps62
  go_wp2_with fail
  go_loopg [7] 2 (fun kq v7 wr => ((v7 = .int .i64 0 ∧ kq = 2) ∨ (v7 = .int .i64 1 ∧ kq = 1 ∧ Hid (∀ x ∈ c.flatten, x.k ≠ key))) ∧ Hid (Sat w0 wr (tab1 t seed s g c n * R)))
  case atStart => exact ⟨.inl ⟨rfl, rfl⟩, HS⟩
  case round =>
    clear HS
    obtain ⟨hq, HSr⟩ := hrel
    rcases hq with ⟨rfl, rfl⟩ | ⟨rfl, rfl, HN⟩
    · obtain ⟨a0, a1, a2, a6, a7⟩ := tab1_open HSr.out
      go_wp2_with fail
      refine calls_drew HSr.out (slot0 HK.out HOK.out.h0.b1 HOK.out.h0.len a0 a1 a2) ?_
      intro wq Sq
      clear a0 a1 a2 a6 a7 HSr
      have hi := HOK.out.h0.lt key
      have HI := Lib.hid hi
      obtain ⟨i, hii⟩ : ∃ i, i = plOf seed key s := ⟨_, rfl⟩
      have HII := Lib.hid hii
      rw [← hii]
      have HSq := Lib.hid Sq
      clear Sq hi hii
      have hil : i < c.length := by rw [HII.out]; exact HI.out
      have HIL := Lib.hid hil
      go_wp2_with fail
      go_loopg [6] c[i].length (fun kq v6 wr => ∃ pre post : List DN, v6 = .pointer (some (lnk ⟨g, i, none⟩ pre)) ∧ Hid (c[i]'HIL.out = pre ++ post) ∧ Hid (∀ x ∈ pre, x.k ≠ key) ∧ Hid (kq = post.length) ∧ Hid (Sat w0 wr (tab1 t seed s g c n * R)))
      case atStart => exact ⟨[], c[i], rfl, Lib.hid rfl, Lib.hid (by simp), Lib.hid rfl, HSq⟩
      case round =>
        clear HSq
        obtain ⟨pre, post, rfl, HC, HP, HQ, HSi⟩ := hrel
        obtain ⟨l1, -, -⟩ := (tab1_plc HSi.out).plc_lnk hil HC.out
        cases post with
        | nil =>
          change _ = some (Value.pointer none) at l1
          go_wp2_with fail
          go_roundg 1
          case measure => omega
          case rel =>
            refine ⟨.inr ⟨rfl, rfl, Lib.hid (HOK.out.h0.none (k := key) ?_)⟩, HSi⟩
            have e := HC.out
            rw [List.append_nil] at e
            simp only [HII.out] at e
            rw [e]; exact HP.out
        | cons x post =>
          change _ = some (pt x.b) at l1
          obtain ⟨x0, x1, x2, -⟩ := (tab1_plc HSi.out).plc_node hil HC.out
          by_cases hx : x.k = key
          · have hxb : (x.k.toList == key.toList) = true := by rw [hx]; exact beq_self_eq_true _
            have HX := Lib.hid hx
            clear hx
            go_wp2_with fail
            go_ret
            exact ⟨.inr (.inl ⟨i, pre, x, post, hil, HC.out, HX.out, rfl⟩), HSi.out⟩
          · have hxb : (x.k.toList == key.toList) = false := beq_eq_false_iff_ne.2 fun e => hx (baInj e)
            have HX := Lib.hid hx
            clear hx
            go_wp2_with fail
            go_roundg post.length
            case measure => have := HQ.out; simp at this; omega
            case rel => exact ⟨pre ++ [x], post, by rw [lnk_snoc], Lib.hid (by rw [HC.out]; simp), Lib.hid (by intro y hy; rcases List.mem_append.1 hy with h | h; exact HP.out y h; rw [List.mem_singleton.1 h]; exact HX.out), Lib.hid rfl, HSi⟩
    · obtain ⟨a0, a1, a2, a6, a7⟩ := tab1_open HSr.out
      go_wp2_with fail
      go_ret
      exact ⟨.inl ⟨rfl, by simpa [DS.nodes, DS.nodes2] using HN.out⟩, HSr.out⟩
theorem tab2_open {w0 w : World} {t s g n : Nat} {seed : Int} {c : List (List DN)} {e : DS2} {R : HP} (S : Sat w0 w (tab2 t seed s g c e n * R)) :
    w.cell? ⟨t, 0, none⟩ = some (.int .u64 seed) ∧ w.cell? ⟨t, 1, none⟩ = some (.int .i64 s) ∧ w.cell? ⟨t, 2, none⟩ = some (.slice (some ⟨g, 0, none⟩) c.length c.length) ∧
    w.cell? ⟨t, 3, none⟩ = some (.int .i64 e.s) ∧ w.cell? ⟨t, 4, none⟩ = some (.slice (some ⟨e.g, 0, none⟩) e.c.length e.c.length) ∧ w.cell? ⟨t, 5, none⟩ = some (.int .i64 e.mv) ∧
    w.cell? ⟨t, 6, none⟩ = some (.bool true) ∧ w.cell? ⟨t, 7, none⟩ = some (.int .i64 n) := by
  unfold tab2 at S
  rw [sep_assoc] at S
  obtain ⟨a0, a1, a2, a3, a4, a5, a6, a7, af⟩ := cells8 S.blk
  exact ⟨a0, a1, a2, a3, a4, a5, a6, a7⟩
theorem tab2_plc {w0 w : World} {t s g n : Nat} {seed : Int} {c : List (List DN)} {e : DS2} {R : HP} (S : Sat w0 w (tab2 t seed s g c e n * R)) :
    Sat w0 w (plc TN TP g c * (plc TN TP e.g e.c * (pts t (.cells #[.int .u64 seed, .int .i64 s, .slice (some ⟨g, 0, none⟩) c.length c.length, .int .i64 e.s, .slice (some ⟨e.g, 0, none⟩) e.c.length e.c.length, .int .i64 e.mv, .bool true, .int .i64 n] 119 (0, 0)) * R))) := S.cong (by unfold tab2; ac_rfl)
set_option maxHeartbeats 4000000 in
/-- 'find', in a parted table. -/
theorem find2 {w0 w : World} {t s g n : Nat} {seed : Int} {c : List (List DN)} {e : DS2} {key : ByteArray} {R : HP} (hk : key.size ≤ maxLen) (hok : DS.Ok seed ⟨s, g, c, some e⟩) (S : Sat w0 w (tab2 t seed s g c e n * R)) :
    Calls Try.prog 62 #[pt t, .string key] w fun en w' => Found ⟨s, g, c, some e⟩ key en ∧ Sat w0 w' (tab2 t seed s g c e n * R) := by
  have HS := Lib.hid S
  have HOK := Lib.hid hok
  have HO1 := Lib.hid (hok.h1 e rfl)
  have HK := Lib.hid hk
  clear S hok hk
  go_enter Try.func62, Try.ntmps62
  go_wp2_with fail
  go_loopg [7] 2 (fun kq v7 wr => ((v7 = .int .i64 0 ∧ kq = 2) ∨ (v7 = .int .i64 1 ∧ kq = 1 ∧ Hid (∀ x ∈ c.flatten, x.k ≠ key)) ∨ (v7 = .int .i64 2 ∧ kq = 0 ∧ Hid (∀ x ∈ c.flatten, x.k ≠ key) ∧ Hid (∀ x ∈ e.c.flatten, x.k ≠ key))) ∧ Hid (Sat w0 wr (tab2 t seed s g c e n * R)))
  case atStart => exact ⟨.inl ⟨rfl, rfl⟩, HS⟩
  case round =>
    clear HS
    obtain ⟨hq, HSr⟩ := hrel
    rcases hq with ⟨rfl, rfl⟩ | ⟨rfl, rfl, HN⟩ | ⟨rfl, rfl, HN, HN2⟩
    · obtain ⟨a0, a1, a2, a3, a4, a5, a6, a7⟩ := tab2_open HSr.out
      go_wp2_with fail
      refine calls_drew HSr.out (slot0 HK.out HOK.out.h0.b1 HOK.out.h0.len a0 a1 a2) ?_
      intro wq Sq
      clear a0 a1 a2 a3 a4 a5 a6 a7 HSr
      have hi := HOK.out.h0.lt key
      have HI := Lib.hid hi
      obtain ⟨i, hii⟩ : ∃ i, i = plOf seed key s := ⟨_, rfl⟩
      have HII := Lib.hid hii
      rw [← hii]
      have HSq := Lib.hid Sq
      clear Sq hi hii
      have hil : i < c.length := by rw [HII.out]; exact HI.out
      have HIL := Lib.hid hil
      go_wp2_with fail
      go_loopg [6] c[i].length (fun kq v6 wr => ∃ pre post : List DN, v6 = .pointer (some (lnk ⟨g, i, none⟩ pre)) ∧ Hid (c[i]'HIL.out = pre ++ post) ∧ Hid (∀ x ∈ pre, x.k ≠ key) ∧ Hid (kq = post.length) ∧ Hid (Sat w0 wr (tab2 t seed s g c e n * R)))
      case atStart => exact ⟨[], c[i], rfl, Lib.hid rfl, Lib.hid (by simp), Lib.hid rfl, HSq⟩
      case round =>
        clear HSq
        obtain ⟨pre, post, rfl, HC, HP, HQ, HSi⟩ := hrel
        obtain ⟨l1, -, -⟩ := (tab2_plc HSi.out).plc_lnk hil HC.out
        cases post with
        | nil =>
          change _ = some (Value.pointer none) at l1
          go_wp2_with fail
          go_roundg 1
          case measure => omega
          case rel =>
            refine ⟨.inr (.inl ⟨rfl, rfl, Lib.hid (HOK.out.h0.none (k := key) ?_)⟩), HSi⟩
            have e9 := HC.out
            rw [List.append_nil] at e9
            simp only [HII.out] at e9
            rw [e9]; exact HP.out
        | cons x post =>
          change _ = some (pt x.b) at l1
          obtain ⟨x0, x1, x2, -⟩ := (tab2_plc HSi.out).plc_node hil HC.out
          by_cases hx : x.k = key
          · have hxb : (x.k.toList == key.toList) = true := by rw [hx]; exact beq_self_eq_true _
            have HX := Lib.hid hx
            clear hx
            go_wp2_with fail
            go_ret
            exact ⟨.inr (.inl ⟨i, pre, x, post, hil, HC.out, HX.out, rfl⟩), HSi.out⟩
          · have hxb : (x.k.toList == key.toList) = false := beq_eq_false_iff_ne.2 fun e => hx (baInj e)
            have HX := Lib.hid hx
            clear hx
            go_wp2_with fail
            go_roundg post.length
            case measure => have := HQ.out; simp at this; omega
            case rel => exact ⟨pre ++ [x], post, by rw [lnk_snoc], Lib.hid (by rw [HC.out]; simp), Lib.hid (by intro y hy; rcases List.mem_append.1 hy with h | h; exact HP.out y h; rw [List.mem_singleton.1 h]; exact HX.out), Lib.hid rfl, HSi⟩
    · obtain ⟨a0, a1, a2, a3, a4, a5, a6, a7⟩ := tab2_open HSr.out
      go_wp2_with fail
      refine calls_drew HSr.out (slot1 HK.out HO1.out.1.b1 HO1.out.1.len a0 a3 a4) ?_
      intro wq Sq
      clear a0 a1 a2 a3 a4 a5 a6 a7 HSr
      have hi := HO1.out.1.lt key
      have HI := Lib.hid hi
      obtain ⟨i, hii⟩ : ∃ i, i = plOf seed key e.s := ⟨_, rfl⟩
      have HII := Lib.hid hii
      rw [← hii]
      have HSq := Lib.hid Sq
      clear Sq hi hii
      have hil : i < e.c.length := by rw [HII.out]; exact HI.out
      have HIL := Lib.hid hil
      go_wp2_with fail
      go_loopg [6] e.c[i].length (fun kq v6 wr => ∃ pre post : List DN, v6 = .pointer (some (lnk ⟨e.g, i, none⟩ pre)) ∧ Hid (e.c[i]'HIL.out = pre ++ post) ∧ Hid (∀ x ∈ pre, x.k ≠ key) ∧ Hid (kq = post.length) ∧ Hid (Sat w0 wr (tab2 t seed s g c e n * R)))
      case atStart => exact ⟨[], e.c[i], rfl, Lib.hid rfl, Lib.hid (by simp), Lib.hid rfl, HSq⟩
      case round =>
        clear HSq
        obtain ⟨pre, post, rfl, HC, HP, HQ, HSi⟩ := hrel
        obtain ⟨l1, -, -⟩ := (tab2_plc HSi.out).p2.plc_lnk hil HC.out
        cases post with
        | nil =>
          change _ = some (Value.pointer none) at l1
          go_wp2_with fail
          go_roundg 0
          case measure => omega
          case rel =>
            refine ⟨.inr (.inr ⟨rfl, rfl, HN, Lib.hid (HO1.out.1.none (k := key) ?_)⟩), HSi⟩
            have e9 := HC.out
            rw [List.append_nil] at e9
            simp only [HII.out] at e9
            rw [e9]; exact HP.out
        | cons x post =>
          change _ = some (pt x.b) at l1
          obtain ⟨x0, x1, x2, -⟩ := (tab2_plc HSi.out).p2.plc_node hil HC.out
          by_cases hx : x.k = key
          · have hxb : (x.k.toList == key.toList) = true := by rw [hx]; exact beq_self_eq_true _
            have HX := Lib.hid hx
            clear hx
            go_wp2_with fail
            go_ret
            exact ⟨.inr (.inr ⟨e, i, pre, x, post, rfl, hil, HC.out, HX.out, rfl⟩), HSi.out⟩
          · have hxb : (x.k.toList == key.toList) = false := beq_eq_false_iff_ne.2 fun e => hx (baInj e)
            have HX := Lib.hid hx
            clear hx
            go_wp2_with fail
            go_roundg post.length
            case measure => have := HQ.out; simp at this; omega
            case rel => exact ⟨pre ++ [x], post, by rw [lnk_snoc], Lib.hid (by rw [HC.out]; simp), Lib.hid (by intro y hy; rcases List.mem_append.1 hy with h | h; exact HP.out y h; rw [List.mem_singleton.1 h]; exact HX.out), Lib.hid rfl, HSi⟩
    · go_wp2_with fail
      go_ret
      refine ⟨.inl ⟨rfl, ?_⟩, HSr.out⟩
      intro x hx
      rcases List.mem_append.1 hx with h | h
      · exact HN.out x h
      · exact HN2.out x h
theorem dfind {w0 w : World} {t : Nat} {seed : Int} {d : DS} {key : ByteArray} {R : HP} (hk : key.size ≤ maxLen) (hok : DS.Ok seed d) (S : Sat w0 w (tabD t seed d * R)) :
    Calls Try.prog 62 #[pt t, .string key] w fun en w' => Found d key en ∧ Sat w0 w' (tabD t seed d * R) := by
  obtain ⟨s, g, c, sec⟩ := d
  cases sec with
  | none => exact find1 hk hok S
  | some e => exact find2 hk hok S
end Go.Sl.DI64
/-! ### DtI643 -/
namespace Go.Sl.DI64
open Go.RowKit Go.Proofs Go.Sl
set_option linter.unusedVariables false
set_option linter.unusedSimpArgs false
set_option maxRecDepth 100000

theorem tab1_close {w0 w : World} {t s g n : Nat} {seed : Int} {c c' : List (List DN)} {R : HP} (hl : c'.length = c.length) (S : Sat w0 w (plc TN TP g c' * (pts t (.cells #[.int .u64 seed, .int .i64 s, .slice (some ⟨g, 0, none⟩) c.length c.length, .int .i64 0, .slice none 0 0, .int .i64 0, .bool false, .int .i64 n] 119 (0, 0)) * R))) :
    Sat w0 w (tab1 t seed s g c' n * R) := by
  unfold tab1; rw [hl]; exact S.cong (by ac_rfl)
theorem tab2_close {w0 w : World} {t s g n : Nat} {seed : Int} {c c' : List (List DN)} {e e' : DS2} {R : HP} (hl : c'.length = c.length) (hl2 : e'.c.length = e.c.length) (hs : e'.s = e.s) (hg : e'.g = e.g) (hm : e'.mv = e.mv)
    (S : Sat w0 w (plc TN TP g c' * (plc TN TP e.g e'.c * (pts t (.cells #[.int .u64 seed, .int .i64 s, .slice (some ⟨g, 0, none⟩) c.length c.length, .int .i64 e.s, .slice (some ⟨e.g, 0, none⟩) e.c.length e.c.length, .int .i64 e.mv, .bool true, .int .i64 n] 119 (0, 0)) * R)))) :
    Sat w0 w (tab2 t seed s g c' e' n * R) := by
  unfold tab2; rw [hl, hl2, hs, hg, hm]; exact S.cong (by ac_rfl)
/-- 'front', half 0. -/
theorem front0 {w0 w : World} {t s g n : Nat} {seed : Int} {c : List (List DN)} {x : DN} {nx : Value} {R : HP} (hk : x.k.size ≤ maxLen) (H : Half seed s c) (S : Sat w0 w (dnode TN x nx * (tab1 t seed s g c n * R))) :
    Calls Try.prog 69 #[pt t, .int .i64 0, pt x.b] w fun en w' => en = .returned (.tuple #[]) ∧ Sat w0 w' (tab1 t seed s g (c.set (plOf seed x.k s) (x :: c[plOf seed x.k s]'(H.lt _))) n * R) := by
  obtain ⟨x0, -, -, -⟩ := S.dnode_cells
  have HS := Lib.hid S
  have HH := Lib.hid H
  have HK := Lib.hid hk
  have hi := H.lt x.k
  clear S hk
  go_enter Try.func69, Try.ntmps69
  go_wp2_with fail
  obtain ⟨a0, a1, a2, a6, a7⟩ := tab1_open HS.out.p2
  refine calls_drew HS.out (slot0 HK.out HH.out.b1 HH.out.len a0 a1 a2) ?_
  intro wq Sq
  clear a0 a1 a2 a6 a7 HS x0
  obtain ⟨g0, g1, gf, SF⟩ := (tab1_plc Sq.p2).p3.plc_front hi
  obtain ⟨x0, x1, x2, xf⟩ := Sq.dnode_cells
  have HF := Lib.hid SF
  clear SF Sq
  obtain ⟨u, hu⟩ := hd0_ptr (c[plOf seed x.k s])
  rw [hu] at g0 g1 gf HF
  clear hu
  generalize hp : plOf seed x.k s = i at *
  have HP := Lib.hid hp
  clear hp
  go_wp2_with fail
  go_end0
  obtain rfl := HP.out
  exact ⟨rfl, tab1_close (by simp) HF.out⟩
/-- 'front', half 1. -/
theorem front1 {w0 w : World} {t s g n : Nat} {seed : Int} {c : List (List DN)} {e : DS2} {x : DN} {nx : Value} {R : HP} (hk : x.k.size ≤ maxLen) (H : Half seed e.s e.c) (S : Sat w0 w (dnode TN x nx * (tab2 t seed s g c e n * R))) :
    Calls Try.prog 69 #[pt t, .int .i64 1, pt x.b] w fun en w' => en = .returned (.tuple #[]) ∧ Sat w0 w' (tab2 t seed s g c { e with c := e.c.set (plOf seed x.k e.s) (x :: e.c[plOf seed x.k e.s]'(H.lt _)) } n * R) := by
  obtain ⟨x0, -, -, -⟩ := S.dnode_cells
  have HS := Lib.hid S
  have HH := Lib.hid H
  have HK := Lib.hid hk
  have hi := H.lt x.k
  clear S hk
  go_enter Try.func69, Try.ntmps69
  go_wp2_with fail
  obtain ⟨a0, a1, a2, a3, a4, a5, a6, a7⟩ := tab2_open HS.out.p2
  refine calls_drew HS.out (slot1 HK.out HH.out.b1 HH.out.len a0 a3 a4) ?_
  intro wq Sq
  clear a0 a1 a2 a3 a4 a5 a6 a7 HS x0
  obtain ⟨g0, g1, gf, SF⟩ := ((tab2_plc Sq.p2).p4.cong (by ac_rfl : dnode TN x nx * (plc TN TP g c * (plc TN TP e.g e.c * (pts t (.cells #[.int .u64 seed, .int .i64 s, .slice (some ⟨g, 0, none⟩) c.length c.length, .int .i64 e.s, .slice (some ⟨e.g, 0, none⟩) e.c.length e.c.length, .int .i64 e.mv, .bool true, .int .i64 n] 119 (0, 0)) * R))) = dnode TN x nx * (plc TN TP e.g e.c * (plc TN TP g c * (pts t (.cells #[.int .u64 seed, .int .i64 s, .slice (some ⟨g, 0, none⟩) c.length c.length, .int .i64 e.s, .slice (some ⟨e.g, 0, none⟩) e.c.length e.c.length, .int .i64 e.mv, .bool true, .int .i64 n] 119 (0, 0)) * R))))).plc_front hi
  obtain ⟨x0, x1, x2, xf⟩ := Sq.dnode_cells
  have HF := Lib.hid SF
  clear SF Sq
  obtain ⟨u, hu⟩ := hd0_ptr (e.c[plOf seed x.k e.s])
  rw [hu] at g0 g1 gf HF
  clear hu
  generalize hp : plOf seed x.k e.s = i at *
  have HP := Lib.hid hp
  clear hp
  go_wp2_with fail
  go_end0
  obtain rfl := HP.out
  exact ⟨rfl, tab2_close (c := c) (e := e) rfl (by simp) rfl rfl rfl HF.out.p2⟩
theorem tab1_frz {w0 w : World} {t s g n : Nat} {seed : Int} {c : List (List DN)} {R : HP} (S : Sat w0 w (tab1 t seed s g c n * R)) : ∀ i, w.frozen? ⟨t, i, none⟩ = false := by
  unfold tab1 at S; rw [sep_assoc] at S; exact frz_of S.blk
theorem tab2_frz {w0 w : World} {t s g n : Nat} {seed : Int} {c : List (List DN)} {e : DS2} {R : HP} (S : Sat w0 w (tab2 t seed s g c e n * R)) : ∀ i, w.frozen? ⟨t, i, none⟩ = false := by
  unfold tab2 at S; rw [sep_assoc] at S; exact frz_of S.blk
/-- 'step', of a table of one half. -/
theorem step1 {w0 w : World} {t s g n : Nat} {seed : Int} {c : List (List DN)} {R : HP} (S : Sat w0 w (tab1 t seed s g c n * R)) :
    Calls Try.prog 68 #[pt t] w fun en w' => en = .returned (.bool false) ∧ Sat w0 w' (tab1 t seed s g c n * R) := by
  obtain ⟨a0, a1, a2, a6, a7⟩ := tab1_open S
  have HS := Lib.hid S
  clear S
  go_enter Try.func68, Try.ntmps68
  go_wp2_with fail
  go_ret
  exact ⟨rfl, HS.out⟩
set_option maxHeartbeats 4000000 in
/-- 'step', of a parted table. -/
theorem step2 {w0 w : World} {t s g : Nat} {seed : Int} {c : List (List DN)} {e : DS2} {R : HP} (hks : ∀ x ∈ c.flatten, x.k.size ≤ maxLen) (hok : DS.Ok seed ⟨s, g, c, some e⟩) (S : Sat w0 w (tabD t seed ⟨s, g, c, some e⟩ * R)) :
    Calls Try.prog 68 #[pt t] w fun en w' => en = .returned (.bool true) ∧ ∃ d', Stepped seed ⟨s, g, c, some e⟩ d' ∧ Sat w0 w' (tabD t seed d' * R) := by
  obtain ⟨n, hn⟩ : ∃ n, n = (DS.nodes ⟨s, g, c, some e⟩).length := ⟨_, rfl⟩
  change Sat w0 w (tab2 t seed s g c e (DS.nodes ⟨s, g, c, some e⟩).length * R) at S
  rw [← hn] at S
  have hi : e.mv < c.length := (hok.h1 e rfl).2.1
  have hcl : c.length ≤ 65536 := by
    rw [hok.h0.len]
    exact Nat.le_trans (Nat.pow_le_pow_right (by decide) hok.h0.b1) (by decide)
  obtain ⟨a0, a1, a2, a3, a4, a5, a6, a7⟩ := tab2_open S
  obtain ⟨b0, bf, -⟩ := (tab2_plc S).plc_off hi
  obtain ⟨cm, hcm⟩ : ∃ cm, cm = c[e.mv]'hi := ⟨_, rfl⟩
  rw [← hcm] at b0
  obtain ⟨u, hu⟩ := hd0_ptr cm
  rw [hu] at b0
  have HCM := Lib.hid hcm
  have HS := Lib.hid S
  have HN := Lib.hid hn
  have HOK := Lib.hid hok
  have HU := Lib.hid hu
  have HI := Lib.hid hi
  have hi2 : (e.mv : Int) < (c.length : Int) := by omega
  have hks' : ∀ x ∈ cm, x.k.size ≤ maxLen := fun x hx => hks x (mem_flat_of hi (hcm ▸ hx))
  have HKS := Lib.hid hks'
  clear S hn hok hu hks hks' hcm
  go_enter Try.func68, Try.ntmps68
  go_wp2_with fail
  go_region
  go_wp2_with fail
  go_region
  clear a0 a1 a2 a3 a4 a5 a6 a7 b0 bf
  have S1 := ((tab2_plc HS.out).plc_off HI.out).2.2.drew.drew
  refine gen_w S1 ?_
  intro w1 S1
  have S2 : Sat w0 w1 (dseg TN cm (.pointer none) * (tab2 t seed s g (c.set e.mv []) { e with c := e.c } n * R)) := by
    refine (Sat.cong S1.p2 ?_)
    rw [HCM.out]
    unfold tab2
    rw [List.length_set]
    ac_rfl
  have HS2 := Lib.hid S2
  clear S1 S2 HS
  obtain ⟨u0, hu0⟩ : ∃ u0, u0 = Value.pointer u := ⟨_, rfl⟩
  rw [← hu0]
  rw [← hu0] at HU
  clear hu0
  go_wp2_with fail
  go_loopg [3, 4] cm.length (fun kq v3 v4 wr => ∃ (done rest : List DN) (ec : List (List DN)), v3 = hd0 rest ∧ Hid (cm = done ++ rest) ∧ Hid (Half seed e.s ec ∧ ec.flatten.Perm (done ++ e.c.flatten)) ∧ Hid (kq = rest.length) ∧
    Hid (Sat w0 wr (dseg TN rest (.pointer none) * (tab2 t seed s g (c.set e.mv []) { e with c := ec } n * R))))
  case atStart => exact ⟨[], cm, e.c, HU.out.symm, Lib.hid rfl, Lib.hid ⟨(HOK.out.h1 e rfl).1, by simp⟩, Lib.hid rfl, HS2⟩
  case round =>
    clear HS2 HU
    obtain ⟨done, rest, ec, rfl, HC, HE, HQ, HSr⟩ := hrel
    cases rest with
    | cons x rest =>
      obtain ⟨x0, x2, Sx⟩ := HSr.out.dseg_first
      obtain ⟨u1, hu1⟩ := hd0_ptr rest
      have hu1' : hdo rest (.pointer none) = .pointer u1 := hu1
      rw [hu1'] at x2 Sx
      have HU1 := Lib.hid hu1
      have HSx := Lib.hid (Sx.p3)
      clear hu1 hu1' Sx
      rw [show hd0 (x :: rest) = pt x.b from rfl]
      go_wp2_with fail
      have hkx : x.k.size ≤ maxLen := HKS.out x (by rw [HC.out]; simp)
      have HKX := Lib.hid hkx
      clear hkx
      refine (front1 HKX.out HE.out.1 HSx.out.p2).mono ?_
      rintro en w2 ⟨rfl, S2⟩
      have HS3 := Lib.hid S2.p2
      clear S2 HSx x0 x2
      go_wp2_with fail
      go_roundg rest.length
      case measure => have := HQ.out; simp at this; omega
      case rel =>
        refine ⟨done ++ [x], rest, _, HU1.out.symm, Lib.hid (by rw [HC.out]; simp), Lib.hid ⟨(front_half HE.out.1 x).1, ((front_half HE.out.1 x).2.trans (HE.out.2.cons x)).trans ?_⟩, Lib.hid rfl, HS3⟩
        rw [List.append_assoc]
        exact (List.perm_middle (l₁ := done)).symm
    | nil =>
      have S1 : Sat w0 wr (tab2 t seed s g (c.set e.mv []) { e with c := ec } n * R) := HSr.out.cong (by rw [dseg_nil, emp_mul])
      obtain ⟨a0, a1, a2, a3, a4, a5, a6, a7⟩ := tab2_open S1
      rw [List.length_set] at a2
      have hdn : cm = done := by rw [HC.out, List.append_nil]
      have af := tab2_frz S1
      have HD := Lib.hid hdn
      have HS1 := Lib.hid S1
      clear S1 hdn HSr
      simp only at a3 a4 a5
      rw [show hd0 ([] : List DN) = Value.pointer none from rfl]
      have hwr : wrap64 ((e.mv : Int) + 1) = ((e.mv + 1 : Nat) : Int) := by unfold wrap64; omega
      have hwr2 : ((e.mv : Int) + 1) = ((e.mv + 1 : Nat) : Int) := by omega
      have S1 := HS1.out
      unfold tab2 at S1
      rw [sep_assoc] at S1
      have S2 := S1.setCell (i := 5) (.int .i64 ((e.mv + 1 : Nat) : Int))
      have HS2 := Lib.hid S2
      have HW := Lib.hid hwr2
      clear S1 S2 HS1 hwr hwr2
      go_upto_region 10 with (fail)
      rw [HW.out]
      refine gen_w HS2.out ?_
      intro w3 S3
      simp only [List.setIfInBounds_toArray, List.set_cons_succ, List.set_cons_zero, List.length_set] at S3
      clear a0 a1 a2 a3 a4 a5 a6 a7 af HS2 HW
      obtain ⟨a0, a1, a2, a3, a4, a5, a6, a7, af⟩ := cells8 S3.blk
      by_cases hlast : e.mv + 1 = c.length
      · have hl2 : (((e.mv + 1 : Nat) : Int) == (c.length : Int)) = true := by simp; omega
        have HL := Lib.hid hlast
        have S4 := (((((S3.setCell (i := 1) (.int .i64 e.s)).setCell (i := 2) (.slice (some ⟨e.g, 0, none⟩) ec.length ec.length)).setCell (i := 3) (.int .i64 0)).setCell (i := 4) (.slice none 0 0)).setCell (i := 6) (.bool false)).setCell (i := 5) (.int .i64 0)
        have HS4 := Lib.hid S4.drew
        clear hlast S3 S4
        go_region
        go_wp2_with fail
        go_ret
        have hst := stepped_one HOK.out HI.out HE.out.1 (by rw [← HCM.out, HD.out]; exact HE.out.2) HL.out
        refine ⟨rfl, _, hst, ?_⟩
        show Sat w0 _ (tab1 t seed e.s e.g ec (DS.nodes ⟨e.s, e.g, ec, none⟩).length * R)
        rw [hst.2.length_eq, ← HN.out]
        have S5 := HS4.out
        simp only [List.setIfInBounds_toArray, List.set_cons_succ, List.set_cons_zero] at S5
        exact Sat.drop1 (A := plc TN TP g (c.set e.mv [])) (S5.cong (by unfold tab1; ac_rfl))
      · have hl2 : (((e.mv + 1 : Nat) : Int) == (c.length : Int)) = false := by simp; omega
        have HL := Lib.hid hlast
        have HS4 := Lib.hid S3.drew
        clear hlast S3
        go_region
        go_wp2_with fail
        go_ret
        have hst := stepped_two HOK.out HI.out HE.out.1 (by rw [← HCM.out, HD.out]; exact HE.out.2) (by have := HI.out; have := HL.out; omega)
        refine ⟨rfl, _, hst, ?_⟩
        show Sat w0 _ (tab2 t seed s g (c.set e.mv []) { e with c := ec, mv := e.mv + 1 } (DS.nodes ⟨s, g, c.set e.mv [], some { e with c := ec, mv := e.mv + 1 }⟩).length * R)
        rw [hst.2.length_eq, ← HN.out]
        exact HS4.out.cong (by unfold tab2; rw [List.length_set]; ac_rfl)
end Go.Sl.DI64
/-! ### DtI644 -/
namespace Go.Sl.DI64
open Go.RowKit Go.Proofs Go.Sl
set_option linter.unusedVariables false
set_option linter.unusedSimpArgs false
set_option maxRecDepth 100000

theorem made_nils (n : Nat) : madeCells (Value.pointer none).cells n = (List.replicate n (Value.pointer none)).toArray := by
  rw [show (Value.pointer none).cells = #[Value.pointer none] from rfl, ← toList_madeCells_one]
theorem psize : (Try.prog.info? 116).map (·.size) = some 2 := by kernel_rfl
theorem nodeInfo : (Try.prog.info? TP).map (fun i => (i.zero, i.size, i.bytes)) = some (some (.pointer none), 1, 8) := by kernel_rfl
theorem run_places (w : World) (n : Nat) (hn : n ≤ 65536) : (Instr.makeSlice 114 (.int .i64 n) (.int .i64 n)).run Try.prog w = .ok (.slice (some ⟨w.heap.size, 0, none⟩) n n) (w.alloc (.cells (List.replicate n (Value.pointer none)).toArray TP)) := by
  obtain ⟨i, hi, hz, hs, hb⟩ := info_parts nodeInfo
  have := run_make (P := Try.prog) w 114 TP i (.pointer none) Try.underlying114 hi hz .i64 .i64 n n (by omega) (Int.le_refl _) (by rw [hb]; omega) (by omega)
  simp only [Int.toNat_natCast, hs, Nat.mul_one, made_nils] at this
  exact this
/-- 'empty(b)'. -/
theorem dempty {w0 w : World} {b : Nat} {R : HP} (hb : b ≤ 16) (S : Sat w0 w R) :
    Calls Try.prog 74 #[.int .i64 b] w fun en w' => ∃ g, en = .returned (.agg #[.int .i64 b, .slice (some ⟨g, 0, none⟩) (2 ^ b) (2 ^ b)]) ∧ Sat w0 w' (plc TN TP g (List.replicate (2 ^ b) []) * R) := by
  have hp : 2 ^ b ≤ 65536 := Nat.le_trans (Nat.pow_le_pow_right (by decide) hb) (by decide)
  obtain ⟨n, hn⟩ : ∃ n, n = 2 ^ b := ⟨_, rfl⟩
  have hn2 : (2 : Int) ^ b = (n : Int) := by rw [hn]; simp
  rw [← hn] at hp ⊢
  have hw : wrap64 ((2 : Int) ^ b) = (n : Int) := by rw [hn2]; unfold wrap64; omega
  obtain ⟨k, hk⟩ : ∃ k, k = w.heap.size := ⟨_, rfl⟩
  have S1 := (S.alloc (.cells #[.int .i64 0, .slice none 0 0] 116)).alloc (.cells (List.replicate n (Value.pointer none)).toArray TP)
  have hr := run_places (w.alloc (.cells #[.int .i64 0, .slice none 0 0] 116)) n hp
  rw [World.size_alloc, ← hk] at S1 hr
  have S2 := ((S.alloc (.cells #[.int .i64 b, .slice (some ⟨k + 1, 0, none⟩) n n] 116)).alloc (.cells (Array.replicate n (Value.pointer none)) TP)).p2
  rw [World.size_alloc, ← hk] at S2
  have HS2 := Lib.hid S2.drop1
  have HB := Lib.hid S2.blk
  have HK := Lib.hid hk
  obtain ⟨q0, q1, -⟩ := blk2 S1.p2.blk
  have qf := frz_of S1.p2.blk
  clear S S1 S2 hn hn2 hp hk
  go_enter Try.func74, Try.ntmps74
  go_wp2_with fail
  rw [← HK.out]
  refine bodyPost_ret (results_cell_row rfl _ _ k 116 _ (0, 0) _ rfl HB.out Try.underlying116 rfl psize) rfl ?_
  exact ⟨k + 1, rfl, by rw [plc_new, List.toArray_replicate]; exact HS2.out⟩
/-- 'New(seed)'. -/
theorem dNew {w0 w : World} {seed : Int} {R : HP} (S : Sat w0 w R) :
    Calls Try.prog 45 #[.int .u64 seed] w fun en w' => ∃ t g, en = .returned (pt t) ∧ Sat w0 w' (tab1 t seed 2 g (List.replicate 4 []) 0 * R) := by
  have HS := Lib.hid S
  clear S
  go_enter Try.func45, Try.ntmps45
  go_wp2_with fail
  refine (dempty (b := 2) (by decide) HS.out).mono ?_
  rintro en w1 ⟨g, rfl, S1⟩
  have HS1 := Lib.hid S1
  clear S1 HS
  go_wp2_with fail
  go_ret
  refine ⟨w1.heap.size, g, rfl, ?_⟩
  exact (HS1.out.alloc _).cong (by unfold tab1; simp only [List.length_replicate]; ac_rfl)
/-- 'part(b)', of a table of one half. -/
theorem dpart {w0 w : World} {t s g n b : Nat} {seed : Int} {c : List (List DN)} {R : HP} (hz : b ≤ 16) (S : Sat w0 w (tab1 t seed s g c n * R)) :
    Calls Try.prog 70 #[pt t, .int .i64 b] w fun en w' => en = .returned (.tuple #[]) ∧ ∃ g', Sat w0 w' (tab2 t seed s g c ⟨b, g', List.replicate (2 ^ b) [], 0⟩ n * R) := by
  unfold tab1 at S
  rw [sep_assoc] at S
  have HS := Lib.hid S
  clear S
  go_enter Try.func70, Try.ntmps70
  go_wp2_with fail
  go_region_held3 (fun _ => True) (trivial) ((go_at_call 74; refine (dempty hz HS.out.drew).mono ?_; rintro en w1 ⟨g', rfl, S1⟩; obtain ⟨a0, a1, a2, a3, a4, a5, a6, a7, af⟩ := cells8 S1.p2.blk; have HS1 := Lib.hid S1; clear S1))
  have S2 := (((HS1.out.p2.setCell (i := 3) (.int .i64 b)).setCell (i := 4) (.slice (some ⟨g', 0, none⟩) (2 ^ b) (2 ^ b))).setCell (i := 6) (.bool true)).setCell (i := 5) (.int .i64 0)
  have HS2 := Lib.hid S2
  clear S2
  go_wp2_with fail
  go_end0
  exact ⟨rfl, g', HS2.out.cong (by unfold tab2; simp only [List.setIfInBounds_toArray, List.set_cons_succ, List.set_cons_zero, List.length_replicate]; ac_rfl)⟩
end Go.Sl.DI64
/-! ### DtI645 -/
namespace Go.Sl.DI64
open Go.RowKit Go.Proofs Go.Sl
set_option linter.unusedVariables false
set_option linter.unusedSimpArgs false
set_option maxRecDepth 100000

theorem tabN_half0 (t : Nat) (seed : Int) (d : DS) (n : Nat) : ∃ X : HP, ∀ c', c'.length = d.c.length → tabN t seed { d with c := c' } n = plc TN TP d.g c' * X := by
  obtain ⟨s, g, c, sec⟩ := d
  cases sec with
  | none => exact ⟨_, fun c' h => by unfold tabN tab1; simp only; rw [h, sep_comm]⟩
  | some e => exact ⟨pts t (.cells #[.int .u64 seed, .int .i64 s, .slice (some ⟨g, 0, none⟩) c.length c.length, .int .i64 e.s, .slice (some ⟨e.g, 0, none⟩) e.c.length e.c.length, .int .i64 e.mv, .bool true, .int .i64 n] 119 (0, 0)) * plc TN TP e.g e.c, fun c' h => by unfold tabN tab2; simp only; rw [h]; ac_rfl⟩
theorem tabN_half1 (t : Nat) (seed : Int) (d : DS) (n : Nat) {e : DS2} (he : d.sec = some e) : ∃ X : HP, ∀ c', c'.length = e.c.length → tabN t seed { d with sec := some { e with c := c' } } n = plc TN TP e.g c' * X := by
  obtain ⟨s, g, c, sec⟩ := d
  simp only at he
  subst he
  exact ⟨pts t (.cells #[.int .u64 seed, .int .i64 s, .slice (some ⟨g, 0, none⟩) c.length c.length, .int .i64 e.s, .slice (some ⟨e.g, 0, none⟩) e.c.length e.c.length, .int .i64 e.mv, .bool true, .int .i64 n] 119 (0, 0)) * plc TN TP g c, fun c' h => by unfold tabN tab2; simp only; rw [h]; ac_rfl⟩
/-- The cells of a table. -/
theorem tabN_cells {w0 w : World} {t n : Nat} {seed : Int} {d : DS} {R : HP} (S : Sat w0 w (tabN t seed d n * R)) :
    w.cell? ⟨t, 0, none⟩ = some (.int .u64 seed) ∧ w.cell? ⟨t, 1, none⟩ = some (.int .i64 d.s) ∧ w.cell? ⟨t, 2, none⟩ = some (.slice (some ⟨d.g, 0, none⟩) d.c.length d.c.length) ∧
    w.cell? ⟨t, 6, none⟩ = some (.bool d.sec.isSome) ∧ w.cell? ⟨t, 7, none⟩ = some (.int .i64 n) ∧ (∀ i, w.frozen? ⟨t, i, none⟩ = false) ∧ ∀ m : Nat, Sat w0 (w.setCell ⟨t, 7, none⟩ (.int .i64 m)) (tabN t seed d m * R) := by
  obtain ⟨s, g, c, sec⟩ := d
  cases sec with
  | none =>
    obtain ⟨a0, a1, a2, a6, a7⟩ := tab1_open S
    refine ⟨a0, a1, a2, a6, a7, tab1_frz S, fun m => ?_⟩
    unfold tabN tab1 at S ⊢
    simp only at S ⊢
    rw [sep_assoc] at S ⊢
    exact S.setCell (i := 7) _
  | some e =>
    obtain ⟨a0, a1, a2, a3, a4, a5, a6, a7⟩ := tab2_open S
    refine ⟨a0, a1, a2, a6, a7, tab2_frz S, fun m => ?_⟩
    unfold tabN tab2 at S ⊢
    simp only at S ⊢
    rw [sep_assoc] at S ⊢
    exact S.setCell (i := 7) _
/-- What is read at a hit. -/
theorem hit_cells {w0 w : World} {t n : Nat} {seed : Int} {d : DS} {a : Addr} {x : DN} {R : HP} (h : Hit d a x) (S : Sat w0 w (tabN t seed d n * R)) :
    w.cell? a = some (pt x.b) ∧ w.frozen? a = false ∧ w.cell? ⟨x.b, 0, none⟩ = some (.string x.k) ∧ w.cell? ⟨x.b, 1, none⟩ = some x.v ∧ (∀ i, w.frozen? ⟨x.b, i, none⟩ = false) := by
  rcases h with ⟨i, pre, post, hi, hc, rfl⟩ | ⟨e, i, pre, post, he, hi, hc, rfl⟩
  · obtain ⟨X, hX⟩ := tabN_half0 t seed d n
    have e1 := hX d.c rfl
    rw [show tabN t seed d n = _ from e1, sep_assoc] at S
    obtain ⟨l1, l2, -⟩ := S.plc_lnk hi hc
    obtain ⟨n0, n1, n2, n3⟩ := S.plc_node hi hc
    exact ⟨l1, l2, n0, n1, n3⟩
  · obtain ⟨s, g, c, sec⟩ := d
    simp only at he
    subst he
    obtain ⟨X, hX⟩ := tabN_half1 t seed ⟨s, g, c, some e⟩ n rfl
    have e1 := hX e.c rfl
    rw [show tabN t seed ⟨s, g, c, some e⟩ n = _ from e1, sep_assoc] at S
    obtain ⟨l1, l2, -⟩ := S.plc_lnk hi hc
    obtain ⟨n0, n1, n2, n3⟩ := S.plc_node hi hc
    exact ⟨l1, l2, n0, n1, n3⟩
/-- A hit's value is turned. -/
theorem hit_value {w0 w : World} {t n : Nat} {seed : Int} {d : DS} {a : Addr} {x : DN} {R : HP} (hok : DS.Ok seed d) (h : Hit d a x) (S : Sat w0 w (tabN t seed d n * R)) (v' : Value) :
    ∃ d', DS.Ok seed d' ∧ d'.nodes.length = d.nodes.length ∧ (kvs d'.nodes).Perm (ins (kvs d.nodes) x.k v') ∧ Sat w0 (w.setCell ⟨x.b, 1, none⟩ v') (tabN t seed d' n * R) := by
  rcases h with ⟨i, pre, post, hi, hc, rfl⟩ | ⟨e, i, pre, post, he, hi, hc, rfl⟩
  · obtain ⟨X, hX⟩ := tabN_half0 t seed d n
    have e1 := hX d.c rfl
    rw [show tabN t seed d n = _ from e1, sep_assoc] at S
    have S1 := S.plc_value hi hc v'
    have hp : d.nodes.Perm (x :: ((pre ++ post ++ (d.c.eraseIdx i).flatten) ++ d.nodes2)) := (flatten_mid hi hc).append_right _
    have hp' : (DS.nodes { d with c := d.c.set i (pre ++ { x with v := v' } :: post) }).Perm ({ x with v := v' } :: ((pre ++ post ++ (d.c.eraseIdx i).flatten) ++ d.nodes2)) := (flatten_mid_set hi _).append_right _
    obtain ⟨s, g, c, sec⟩ := d
    obtain ⟨o0, o1⟩ := hit0_ok hok hi hc [{ x with v := v' }] (by simp)
    simp only [List.append_assoc, List.singleton_append] at o0 o1
    refine ⟨_, ok_value hok hp hp' rfl o0 o1 (fun e he => hok.ad e he), by rw [hp.length_eq, hp'.length_eq]; rfl, ins_kvs hp hok.nd hp' rfl, ?_⟩
    rw [hX _ (by simp), sep_assoc]
    exact S1
  · obtain ⟨s, g, c, sec⟩ := d
    simp only at he
    subst he
    obtain ⟨X, hX⟩ := tabN_half1 t seed ⟨s, g, c, some e⟩ n rfl
    have e1 := hX e.c rfl
    rw [show tabN t seed ⟨s, g, c, some e⟩ n = _ from e1, sep_assoc] at S
    have S1 := S.plc_value hi hc v'
    have hp : (DS.nodes ⟨s, g, c, some e⟩).Perm (x :: (c.flatten ++ (pre ++ post ++ (e.c.eraseIdx i).flatten))) := ((flatten_mid hi hc).append_left _).trans List.perm_middle
    have hp' : (DS.nodes ⟨s, g, c, some { e with c := e.c.set i (pre ++ { x with v := v' } :: post) }⟩).Perm ({ x with v := v' } :: (c.flatten ++ (pre ++ post ++ (e.c.eraseIdx i).flatten))) := ((flatten_mid_set hi _).append_left _).trans List.perm_middle
    have H := half_swap (hok.h1 e rfl).1 hi hc (l := [{ x with v := v' }]) (by simp)
    simp only [List.append_assoc, List.singleton_append] at H
    obtain ⟨o0, o1⟩ := hit1_ok hok _ H
    refine ⟨_, ok_value hok hp hp' rfl o0 o1 (by rintro e' he'; simp only [Option.some.injEq] at he'; subst he'; exact hok.ad e rfl), by rw [hp.length_eq, hp'.length_eq]; rfl, ins_kvs hp hok.nd hp' rfl, ?_⟩
    rw [hX _ (by simp), sep_assoc]
    exact S1
/-- A hit is taken out of its chain. -/
theorem hit_unlink {w0 w : World} {t n : Nat} {seed : Int} {d : DS} {a : Addr} {x : DN} {R : HP} (hok : DS.Ok seed d) (h : Hit d a x) (S : Sat w0 w (tabN t seed d n * R)) :
    ∃ d' nx, DS.Ok seed d' ∧ d.nodes.Perm (x :: d'.nodes) ∧ w.cell? ⟨x.b, 2, none⟩ = some (.pointer nx) ∧ Sat w0 (w.setCell a (.pointer nx)) (tabN t seed d' n * R) := by
  rcases h with ⟨i, pre, post, hi, hc, rfl⟩ | ⟨e, i, pre, post, he, hi, hc, rfl⟩
  · obtain ⟨X, hX⟩ := tabN_half0 t seed d n
    have e1 := hX d.c rfl
    rw [show tabN t seed d n = _ from e1, sep_assoc] at S
    obtain ⟨nx, hnx⟩ := hd0_ptr post
    have S1 := S.plc_unlink hi hc
    have n2 := (S.plc_node hi hc).2.2.1
    rw [hnx] at S1 n2
    have hp : d.nodes.Perm (x :: (DS.nodes { d with c := d.c.set i (pre ++ post) })) := by
      refine ((flatten_mid hi hc).append_right _).trans ?_
      rw [List.cons_append]
      exact List.Perm.cons _ ((flatten_set hi _).symm.append_right _)
    obtain ⟨s, g, c, sec⟩ := d
    obtain ⟨o0, o1⟩ := hit0_ok hok hi hc [] (by simp)
    simp only [List.append_nil] at o0 o1
    refine ⟨_, nx, ok_less hok hp o0 o1 (fun e he => hok.ad e he), hp, n2, ?_⟩
    rw [hX _ (by simp), sep_assoc]
    exact Sat.drop1 (A := dnode TN x (.pointer nx)) (S1.cong (by ac_rfl))
  · obtain ⟨s, g, c, sec⟩ := d
    simp only at he
    subst he
    obtain ⟨X, hX⟩ := tabN_half1 t seed ⟨s, g, c, some e⟩ n rfl
    have e1 := hX e.c rfl
    rw [show tabN t seed ⟨s, g, c, some e⟩ n = _ from e1, sep_assoc] at S
    obtain ⟨nx, hnx⟩ := hd0_ptr post
    have S1 := S.plc_unlink hi hc
    have n2 := (S.plc_node hi hc).2.2.1
    rw [hnx] at S1 n2
    have hp : (DS.nodes ⟨s, g, c, some e⟩).Perm (x :: (DS.nodes ⟨s, g, c, some { e with c := e.c.set i (pre ++ post) }⟩)) := by
      refine ((flatten_mid hi hc).append_left _).trans (List.perm_middle.trans ?_)
      exact List.Perm.cons _ ((flatten_set hi _).symm.append_left _)
    have H := half_swap (hok.h1 e rfl).1 hi hc (l := []) (by simp)
    simp only [List.append_nil] at H
    obtain ⟨o0, o1⟩ := hit1_ok hok _ H
    refine ⟨_, nx, ok_less hok hp o0 o1 (by rintro e' he'; simp only [Option.some.injEq] at he'; subst he'; exact hok.ad e rfl), hp, n2, ?_⟩
    rw [hX _ (by simp), sep_assoc]
    exact Sat.drop1 (A := dnode TN x (.pointer nx)) (S1.cong (by ac_rfl))
theorem found_cases {d : DS} {key : ByteArray} {en : Ending} (h : Found d key en) : (en = .returned (.pointer none) ∧ ∀ x ∈ d.nodes, x.k ≠ key) ∨ ∃ a x, en = .returned (.pointer (some a)) ∧ Hit d a x ∧ x.k = key := by
  rcases h with h | ⟨i, pre, x, post, hi, hc, hx, rfl⟩ | ⟨e, i, pre, x, post, he, hi, hc, hx, rfl⟩
  · exact .inl h
  · exact .inr ⟨_, x, rfl, .inl ⟨i, pre, post, hi, hc, rfl⟩, hx⟩
  · exact .inr ⟨_, x, rfl, .inr ⟨e, i, pre, post, he, hi, hc, rfl⟩, hx⟩
theorem hit_mem {d : DS} {a : Addr} {x : DN} (h : Hit d a x) : x ∈ d.nodes := by
  rcases h with ⟨i, pre, post, hi, hc, rfl⟩ | ⟨e, i, pre, post, he, hi, hc, rfl⟩
  · exact List.mem_append_left _ (mem_flat_of hi (by rw [hc]; simp))
  · refine List.mem_append_right _ ?_
    unfold DS.nodes2
    rw [he]
    exact mem_flat_of hi (by rw [hc]; simp)
/-- 'Len'. -/
theorem tLen {w0 w : World} {t : Nat} {seed : Int} {d : DS} {R : HP} (S : Sat w0 w (tabD t seed d * R)) :
    Calls Try.prog 44 #[pt t] w fun en w' => en = .returned (.int .i64 d.nodes.length) ∧ w = w' := by
  obtain ⟨a0, a1, a2, a6, a7, -, -⟩ := tabN_cells S
  generalize d.nodes.length = n at *
  clear S
  go_enter Try.func44, Try.ntmps44
  go_wp2_with fail
  go_ret
  exact ⟨rfl, rfl⟩
/-- 'ready', of a table that was made. -/
theorem tReady {w0 w : World} {t n : Nat} {seed : Int} {d : DS} {R : HP} (S : Sat w0 w (tabN t seed d n * R)) :
    Calls Try.prog 67 #[pt t] w fun en w' => en = .returned (.bool true) ∧ w = w' := by
  obtain ⟨a0, a1, a2, a6, a7, -, -⟩ := tabN_cells S
  clear S
  have q := Lib.run_eql_slice_nil (P := Try.prog) w 114 TP (some ⟨d.g, 0, none⟩) d.c.length d.c.length 0 0 Try.underlying114
  go_enter Try.func67, Try.ntmps67
  go_wp2_with fail
  go_ret
  exact ⟨rfl, rfl⟩
/-- 'step'. -/
theorem tStep {w0 w : World} {t : Nat} {seed : Int} {d : DS} {R : HP} (hok : DS.Ok seed d) (S : Sat w0 w (tabD t seed d * R)) :
    Calls Try.prog 68 #[pt t] w fun en w' => (∃ b, en = .returned (.bool b)) ∧ ∃ d', Stepped seed d d' ∧ Sat w0 w' (tabD t seed d' * R) := by
  obtain ⟨s, g, c, sec⟩ := d
  cases sec with
  | none =>
    refine (step1 S).mono ?_
    rintro en w' ⟨rfl, S'⟩
    exact ⟨⟨_, rfl⟩, _, ⟨hok, List.Perm.refl _⟩, S'⟩
  | some e =>
    refine (step2 (fun x hx => hok.ks x (List.mem_append_left _ hx)) hok S).mono ?_
    rintro en w' ⟨rfl, d', h1, S'⟩
    exact ⟨⟨_, rfl⟩, d', h1, S'⟩
end Go.Sl.DI64
/-! ### DtI646 -/
namespace Go.Sl.DI64
open Go.RowKit Go.Proofs Go.Sl
set_option linter.unusedVariables false
set_option linter.unusedSimpArgs false
set_option maxRecDepth 100000

/-- What 'Get' tells. -/
abbrev getV (l : List (ByteArray × Value)) (key : ByteArray) : Value := .tuple #[(lk l key).getD (.int .i64 0), .bool (lk l key).isSome]
/-- 'Get'. -/
theorem tGet {w0 w : World} {t : Nat} {seed : Int} {d : DS} {key : ByteArray} {R : HP} (hk : key.size ≤ maxLen) (hok : DS.Ok seed d) (S : Sat w0 w (tabD t seed d * R)) :
    Calls Try.prog 38 #[pt t, .string key] w fun en w' => en = .returned (getV (kvs d.nodes) key) ∧ Sat w0 w' (tabD t seed d * R) := by
  obtain ⟨a0, a1, a2, a6, a7, af, -⟩ := tabN_cells S
  have HS := Lib.hid S
  have HK := Lib.hid hk
  have HOK := Lib.hid hok
  have HA := Lib.hid (S.alloc (.cells #[(.int .i64 0)] 2)).drop1
  have hbig := hok.big
  obtain ⟨n, hn⟩ : ∃ n, n = d.nodes.length := ⟨_, rfl⟩
  have HN := Lib.hid hn
  rw [← hn] at a7 hbig
  clear S hk hok hn
  by_cases h0 : n = 0
  · have hl : lk (kvs d.nodes) key = none := lk_kvs_none (by
      have := List.eq_nil_of_length_eq_zero (HN.out.symm.trans h0)
      rw [this]; simp)
    have hlt : decide ((0 : Int) < (n : Int)) = false := by simp; omega
    have HL := Lib.hid hl
    clear hl
    subst h0
    go_enter Try.func38, Try.ntmps38
    go_wp2_with fail
    go_ret2
    exact ⟨by unfold getV; rw [HL.out]; rfl, HA.out⟩
  · have hlt : decide ((0 : Int) < (n : Int)) = true := by simp; omega
    have hlt2 : (0 : Int) < (n : Int) := by omega
    clear h0 HA
    go_enter Try.func38, Try.ntmps38
    go_wp2_with fail
    refine (dfind HK.out HOK.out HS.out).mono ?_
    rintro en w1 ⟨hf, S1⟩
    clear a0 a1 a2 a6 a7 af HS
    rcases found_cases hf with ⟨rfl, hno⟩ | ⟨a, x, rfl, hit, hx⟩
    · have HL := Lib.hid (lk_kvs_none hno)
      have HA := Lib.hid (S1.alloc (.cells #[(.int .i64 0)] 2)).drop1
      clear S1 hno hf
      go_wp2_with fail
      go_ret2
      exact ⟨by unfold getV; rw [HL.out]; rfl, HA.out⟩
    · subst hx
      have HL := Lib.hid (lk_kvs_some HOK.out.nd (hit_mem hit))
      obtain ⟨l1, l2, n0, n1, n3⟩ := hit_cells hit S1
      have HS1 := Lib.hid S1
      clear S1 hit hf
      go_wp2_with fail
      go_ret2
      exact ⟨by unfold getV; rw [HL.out]; rfl, HS1.out⟩
theorem kvs_perm {l l' : List DN} (h : l.Perm l') : (kvs l).Perm (kvs l') := h.map _
theorem lk_kvs_perm_none {l : List DN} {k : ByteArray} (h : ∀ x ∈ l, x.k ≠ k) : (lk (kvs l) k).isSome = false := by rw [lk_kvs_none h]; rfl
set_option maxHeartbeats 4000000 in
/-- 'Drop'. -/
theorem tDrop {w0 w : World} {t : Nat} {seed : Int} {d : DS} {key : ByteArray} {R : HP} (hk : key.size ≤ maxLen) (hok : DS.Ok seed d) (S : Sat w0 w (tabD t seed d * R)) :
    Calls Try.prog 53 #[pt t, .string key] w fun en w' => en = .returned (.bool (lk (kvs d.nodes) key).isSome) ∧ ∃ d', DS.Ok seed d' ∧ (kvs d'.nodes).Perm (era (kvs d.nodes) key) ∧ Sat w0 w' (tabD t seed d' * R) := by
  have HS := Lib.hid S
  have HK := Lib.hid hk
  have HOK := Lib.hid hok
  clear S hk hok
  go_enter Try.func53, Try.ntmps53
  go_wp2_with fail
  refine (tReady HS.out).mono ?_
  rintro en w' ⟨rfl, rfl⟩
  go_wp2_with fail
  refine (tStep HOK.out HS.out).mono ?_
  rintro en w1 ⟨⟨bs, rfl⟩, d1, hst, S1⟩
  have HST := Lib.hid hst
  have HS1 := Lib.hid S1
  clear HS S1 hst
  go_wp2_with fail
  refine (dfind HK.out HST.out.1 HS1.out).mono ?_
  rintro en w2 ⟨hf, S2⟩
  clear HS1
  rcases found_cases hf with ⟨rfl, hno⟩ | ⟨a, x, rfl, hit, hx⟩
  · have hno' : ∀ x ∈ d.nodes, x.k ≠ key := fun x hx => hno x (HST.out.2.mem_iff.2 hx)
    have HN := Lib.hid hno'
    have HS2 := Lib.hid S2
    clear hno hno' hf S2
    go_wp2_with fail
    go_ret
    refine ⟨by rw [lk_kvs_perm_none HN.out]; rfl, d1, HST.out.1, ?_, HS2.out⟩
    rw [era_off HN.out]
    exact kvs_perm HST.out.2
  · subst hx
    have hxm := hit_mem hit
    have hlk : (lk (kvs d.nodes) x.k).isSome = true := by rw [lk_kvs_some HOK.out.nd (HST.out.2.mem_iff.1 hxm)]; rfl
    obtain ⟨l1, l2, -, -, -⟩ := hit_cells hit S2
    obtain ⟨d2, nx, hok2, hp2, n2, S3⟩ := hit_unlink HST.out.1 hit S2
    have hera : (kvs d2.nodes).Perm (era (kvs d.nodes) x.k) := ((era_kvs hp2 HST.out.1.nd).symm.trans (era_perm (kvs_perm HST.out.2) _))
    obtain ⟨m, hm⟩ : ∃ m, m = d2.nodes.length := ⟨_, rfl⟩
    have hn1 : d1.nodes.length = m + 1 := by rw [hm, hp2.length_eq]; rfl
    rw [hn1] at S3
    have hbig := hok2.big
    rw [← hm] at hbig
    have HLK := Lib.hid hlk
    have HOK2 := Lib.hid hok2
    have HERA := Lib.hid hera
    have HM := Lib.hid hm
    have HS3 := Lib.hid S3
    clear S2 S3 hit hf hxm hlk hp2 hera hm hn1 hok2
    go_upto_region 8 with (fail)
    clear l1 l2 n2
    refine gen_w HS3.out ?_
    intro w3 S3
    obtain ⟨a0, a1, a2, a6, a7, af, SF⟩ := tabN_cells S3
    have HS4 := Lib.hid (SF m)
    have HW := Lib.hid (show wrap64 (((m + 1 : Nat) : Int) - 1) = (m : Int) by unfold wrap64; omega)
    have HW2 := Lib.hid (show ((m + 1 : Nat) : Int) - 1 = (m : Int) by omega)
    clear S3 SF HS3
    go_upto_region 9 with (fail)
    clear a0 a1 a2 a6 a7 af
    refine gen_w HS4.out ?_
    intro w4 S4
    obtain ⟨a0, a1, a2, a6, a7, af, -⟩ := tabN_cells S4
    obtain ⟨pb, hpb⟩ : ∃ pb, pb = w4.heap.size := ⟨_, rfl⟩
    have HPB := Lib.hid hpb
    have S5 := S4.alloc (.cells #[.int .i64 d2.s, .slice (some ⟨d2.g, 0, none⟩) d2.c.length d2.c.length] 116)
    rw [← hpb] at S5
    have HS5 := Lib.hid S5
    clear S4 S5 HS4 hpb HW HW2
    go_upto_region 10 with (fail)
    rw [← HPB.out]
    clear a0 a1 a2 a6 a7 af
    refine gen_w HS5.out ?_
    intro w5 S5
    obtain ⟨a0, a1, a2, a6, a7, af, -⟩ := tabN_cells S5.p2
    obtain ⟨p0, p1, pf⟩ := blk2 S5.blk
    have HS6 := Lib.hid S5.drop1
    have hb0 := HOK2.out.h0.b0
    have hb1 := HOK2.out.h0.b1
    have hcl : d2.c.length ≤ 65536 := by
      rw [HOK2.out.h0.len]
      exact Nat.le_trans (Nat.pow_le_pow_right (by decide) HOK2.out.h0.b1) (by decide)
    have w8 : IntKind.i64.wrap (8 * (m : Int)) = 8 * (m : Int) := IntWalk.i64_in _ (by omega)
    have w8' : wrap64 (8 * (m : Int)) = 8 * (m : Int) := by unfold wrap64; omega
    clear S5 HS5 HPB
    cases hsec : d2.sec with
    | some e =>
      rw [hsec] at a6
      have HSEC := Lib.hid hsec
      clear hsec
      simp only [Option.isSome_some] at a6
      go_quiet (fail)
      go_wp2_with fail
      go_ret
      refine ⟨by rw [HLK.out]; rfl, d2, HOK2.out, HERA.out, ?_⟩
      have S7 := HS6.out.below (below_drewN (Below.refl _ _) nq)
      rw [HM.out] at S7
      exact S7
    | none =>
      rw [hsec] at a6
      have HSEC := Lib.hid hsec
      clear hsec
      simp only [Option.isSome_none] at a6
      by_cases hs : (2 : Int) < (d2.s : Int)
      · have hsd : decide ((2 : Int) < (d2.s : Int)) = true := by simpa using hs
        by_cases hm8 : 8 * (m : Int) < (d2.c.length : Int)
        · have hmd : decide (8 * (m : Int) < (d2.c.length : Int)) = true := by simpa using hm8
          have HZ := Lib.hid (show ((d2.s : Int) - 1) = ((d2.s - 1 : Nat) : Int) by omega)
          have hs2 : 2 ≤ d2.s - 1 := by omega
          have hs16 : d2.s - 1 ≤ 16 := by omega
          go_quiet (fail)
          go_wp2_with fail
          rw [HZ.out]
          have S7 := HS6.out.below (below_drewN (Below.refl _ _) nq)
          have S8 : Sat w0 (w5.drewN nq) (tab1 t seed d2.s d2.g d2.c m * R) := S7.cong (by unfold tabN; rw [HSEC.out])
          refine (dpart hs16 S8).mono ?_
          rintro en w6 ⟨rfl, g', S9⟩
          have HS9 := Lib.hid S9
          clear S7 S8 S9 HS6 HZ
          go_wp2_with fail
          go_ret
          obtain ⟨q1, q2⟩ := parted_ok HOK2.out HSEC.out hs2 hs16 (.inr (by omega)) g'
          refine ⟨by rw [HLK.out]; rfl, _, q1, by rw [q2]; exact HERA.out, ?_⟩
          rw [tabD, q2, ← HM.out]
          exact HS9.out
        · have hmd : decide (8 * (m : Int) < (d2.c.length : Int)) = false := by simpa using hm8
          go_quiet (fail)
          go_wp2_with fail
          go_ret
          refine ⟨by rw [HLK.out]; rfl, d2, HOK2.out, HERA.out, ?_⟩
          have S7 := HS6.out.below (below_drewN (Below.refl _ _) nq)
          rw [HM.out] at S7
          exact S7
      · have hsd : decide ((2 : Int) < (d2.s : Int)) = false := by simpa using hs
        go_quiet (fail)
        go_wp2_with fail
        go_ret
        refine ⟨by rw [HLK.out]; rfl, d2, HOK2.out, HERA.out, ?_⟩
        have S7 := HS6.out.below (below_drewN (Below.refl _ _) nq)
        rw [HM.out] at S7
        exact S7
end Go.Sl.DI64
/-! ### DtI647 -/
namespace Go.Sl.DI64
open Go.RowKit Go.Proofs Go.Sl
set_option linter.unusedVariables false
set_option linter.unusedSimpArgs false
set_option maxRecDepth 100000

theorem ins_perm {l l' : List (ByteArray × Value)} (h : l.Perm l') (k : ByteArray) (v : Value) : (ins l k v).Perm (ins l' k v) := (era_perm h k).cons _
set_option maxHeartbeats 8000000 in
/-- 'Put'. -/
theorem tPut {w0 w : World} {t : Nat} {seed : Int} {d : DS} {key : ByteArray} (v : Int) {R : HP} (hk : key.size ≤ maxLen) (hb : d.nodes.length < 1000000000000) (hok : DS.Ok seed d) (S : Sat w0 w (tabD t seed d * R)) :
    Calls Try.prog 41 #[pt t, .string key, .int .i64 v] w fun en w' => en = .returned (.bool (!(lk (kvs d.nodes) key).isSome)) ∧ ∃ d', DS.Ok seed d' ∧ (kvs d'.nodes).Perm (ins (kvs d.nodes) key (.int .i64 v)) ∧ Sat w0 w' (tabD t seed d' * R) := by
  generalize hbn : (!(lk (kvs d.nodes) key).isSome) = bn
  have HBN := Lib.hid hbn
  clear hbn
  have HS := Lib.hid S
  have HK := Lib.hid hk
  have HOK := Lib.hid hok
  have HB := Lib.hid hb
  clear S hk hok hb
  go_enter Try.func41, Try.ntmps41
  go_wp2_with fail
  refine (tReady HS.out).mono ?_
  rintro en w' ⟨rfl, rfl⟩
  go_wp2_with fail
  refine (tStep HOK.out HS.out).mono ?_
  rintro en w1 ⟨⟨bs, rfl⟩, d1, hst, S1⟩
  have HST := Lib.hid hst
  have HS1 := Lib.hid S1
  clear HS S1 hst
  go_wp2_with fail
  refine (dfind HK.out HST.out.1 HS1.out).mono ?_
  rintro en w2 ⟨hf, S2⟩
  clear HS1
  rcases found_cases hf with ⟨rfl, hno⟩ | ⟨a, x, rfl, hit, hx⟩
  case' inr =>
    subst hx
    have hxm := hit_mem hit
    have hlk : (lk (kvs d.nodes) x.k).isSome = true := by rw [lk_kvs_some HOK.out.nd (HST.out.2.mem_iff.1 hxm)]; rfl
    obtain ⟨l1, l2, -, n1, n3⟩ := hit_cells hit S2
    obtain ⟨d2, hok2, hlen, hp2, S3⟩ := hit_value HST.out.1 hit S2 (.int .i64 v)
    have HLK := Lib.hid hlk
    have HOK2 := Lib.hid hok2
    have HP := Lib.hid (hp2.trans (ins_perm (kvs_perm HST.out.2) _ _))
    have HL := Lib.hid hlen
    have HS3 := Lib.hid S3
    clear S2 S3 hit hf hxm hlk hp2 hok2 hlen
    go_wp2_with fail
    go_ret
    exact ⟨by rw [← HBN.out, HLK.out]; rfl, d2, HOK2.out, HP.out, by rw [tabD, HL.out]; exact HS3.out⟩
  case' inl =>
    have hno' : ∀ x ∈ d.nodes, x.k ≠ key := fun x hx => hno x (HST.out.2.mem_iff.2 hx)
    have HLK := Lib.hid (lk_kvs_perm_none hno')
    have hno1 := hno
    obtain ⟨xb, hxb⟩ : ∃ xb, xb = w2.heap.size := ⟨_, rfl⟩
    have HXB := Lib.hid hxb
    have S3 := S2.alloc (.cells #[.string key, .int .i64 v, .pointer none] TN)
    rw [← hxb] at S3
    have S3' : Sat w0 (w2.alloc (.cells #[.string key, .int .i64 v, .pointer none] TN)) (dnode TN ⟨xb, key, .int .i64 v⟩ (.pointer none) * (tabD t seed d1 * R)) := S3
    have HS3 := Lib.hid S3'
    have hn1 : d1.nodes.length = d.nodes.length := HST.out.2.length_eq
    obtain ⟨m, hm⟩ : ∃ m, m = d1.nodes.length := ⟨_, rfl⟩
    have hmb : m < 1000000000000 := by rw [hm, hn1]; exact HB.out
    have HM := Lib.hid hm
    have HNO := Lib.hid hno
    obtain ⟨a0, a1, a2, a6, a7, af, -⟩ := tabN_cells S2
    clear hf hno hno' hno1 S2 S3 S3' hxb hm hn1
    have hfr : ∃ d2 : DS, d2.nodes.Perm (⟨xb, key, .int .i64 v⟩ :: d1.nodes) ∧ DS.Ok seed d2 ∧ d2.sec.isSome = d1.sec.isSome ∧ ∀ kk : Int, kk = (if d1.sec.isSome then 1 else 0) →
      Calls Try.prog 69 #[pt t, .int .i64 kk, pt xb] (w2.alloc (.cells #[.string key, .int .i64 v, .pointer none] TN)) fun en w' => en = .returned (.tuple #[]) ∧ Sat w0 w' (tabN t seed d2 m * R) := by
      have ok1 := HST.out.1
      have hs3 := HS3.out
      rw [tabD, ← HM.out] at hs3
      have hb1 : d1.nodes.length < 1000000000000 := by rw [← HM.out]; exact hmb
      have hno := HNO.out
      obtain ⟨s, g, c, sec⟩ := d1
      cases sec with
      | none =>
        obtain ⟨f1, f2⟩ := front_half ok1.h0 ⟨xb, key, .int .i64 v⟩
        have hp : (DS.nodes ⟨s, g, c.set (plOf seed key s) (⟨xb, key, .int .i64 v⟩ :: c[plOf seed key s]'(ok1.h0.lt _)), none⟩).Perm (⟨xb, key, .int .i64 v⟩ :: DS.nodes ⟨s, g, c, none⟩) := f2.append_right []
        have hs4 : Sat w0 (w2.alloc (.cells #[.string key, .int .i64 v, .pointer none] TN)) (dnode TN ⟨xb, key, .int .i64 v⟩ (.pointer none) * (tab1 t seed s g c m * R)) := hs3
        exact ⟨_, hp, ok_more (x := ⟨xb, key, .int .i64 v⟩) ok1 hp hno HK.out hb1 f1 (by rintro e he; cases he) (by rintro e he; cases he), rfl, fun kk e => by rw [e]; exact front0 (x := ⟨xb, key, .int .i64 v⟩) HK.out ok1.h0 hs4⟩
      | some e =>
        obtain ⟨f1, f2⟩ := front_half (ok1.h1 e rfl).1 ⟨xb, key, .int .i64 v⟩
        have hp : (DS.nodes ⟨s, g, c, some { e with c := e.c.set (plOf seed key e.s) (⟨xb, key, .int .i64 v⟩ :: e.c[plOf seed key e.s]'((ok1.h1 e rfl).1.lt _)) }⟩).Perm (⟨xb, key, .int .i64 v⟩ :: DS.nodes ⟨s, g, c, some e⟩) := (f2.append_left _).trans List.perm_middle
        obtain ⟨o0, o1⟩ := hit1_ok ok1 _ f1
        have hs4 : Sat w0 (w2.alloc (.cells #[.string key, .int .i64 v, .pointer none] TN)) (dnode TN ⟨xb, key, .int .i64 v⟩ (.pointer none) * (tab2 t seed s g c e m * R)) := hs3
        exact ⟨_, hp, ok_more (x := ⟨xb, key, .int .i64 v⟩) ok1 hp hno HK.out hb1 o0 o1 (by rintro e' he'; simp only [Option.some.injEq] at he'; subst he'; exact ok1.ad e rfl), rfl, fun kk e' => by rw [e']; exact front1 (x := ⟨xb, key, .int .i64 v⟩) HK.out (ok1.h1 e rfl).1 hs4⟩
    obtain ⟨d2, hp2, hok2, hs2, hcall⟩ := hfr
    have hins : (kvs d2.nodes).Perm (ins (kvs d.nodes) key (.int .i64 v)) := (ins_new_kvs (x := ⟨xb, key, .int .i64 v⟩) hp2 HNO.out).trans (ins_perm (kvs_perm HST.out.2) _ _)
    have HINS := Lib.hid hins
    have HOK2 := Lib.hid hok2
    have HM2 := Lib.hid (show d2.nodes.length = m + 1 by rw [HM.out]; exact hp2.length_eq)
    have HCALL := Lib.hid hcall
    cases hd1 : d1.sec.isSome
    case' false => have HC := Lib.hid (HCALL.out 0 (by rw [hd1]; rfl))
    case' true => have HC := Lib.hid (HCALL.out 1 (by rw [hd1]; rfl))
    all_goals
      rw [hd1] at a6 hs2
      have HS2 := Lib.hid hs2
      clear hcall HCALL hp2 hok2 hins hs2 HST HNO HM HS3 hd1
      go_wp2_with fail
      rw [← HXB.out]
      refine HC.out.mono ?_
      rintro en w3 ⟨rfl, S4⟩
      clear a0 a1 a2 a6 a7 af HC HXB
      obtain ⟨a0, a1, a2, a6, a7, af, SF⟩ := tabN_cells S4
      have HS4 := Lib.hid (SF (m + 1))
      have HW := Lib.hid (show ((m : Int) + 1) = ((m + 1 : Nat) : Int) by omega)
      clear S4 SF
      go_upto_region 13 with (fail)
      rw [HW.out]
      clear a0 a1 a2 a6 a7 af
      refine gen_w HS4.out ?_
      intro w4 S4
      obtain ⟨a0, a1, a2, a6, a7, af, -⟩ := tabN_cells S4
      obtain ⟨pb, hpb⟩ : ∃ pb, pb = w4.heap.size := ⟨_, rfl⟩
      have HPB := Lib.hid hpb
      have S5 := S4.alloc (.cells #[.int .i64 d2.s, .slice (some ⟨d2.g, 0, none⟩) d2.c.length d2.c.length] 116)
      rw [← hpb] at S5
      have HS5 := Lib.hid S5
      clear S4 S5 HS4 hpb HW
      go_upto_region 14 with (fail)
      rw [← HPB.out]
      clear a0 a1 a2 a6 a7 af
      refine gen_w HS5.out ?_
      intro w5 S5
      obtain ⟨a0, a1, a2, a6, a7, af, -⟩ := tabN_cells S5.p2
      obtain ⟨p0, p1, pf⟩ := blk2 S5.blk
      have HS6 := Lib.hid S5.drop1
      have hb0 := HOK2.out.h0.b0
      have hb1 := HOK2.out.h0.b1
      rw [HS2.out] at a6
      obtain ⟨mm, hmm⟩ : ∃ mm, mm = m + 1 := ⟨_, rfl⟩
      rw [← hmm] at a7
      have HMM := Lib.hid hmm
      clear S5 HS5 HPB hmm
    · go_quiet (fail)
      go_wp2_with fail
      go_ret
      refine ⟨by rw [← HBN.out, HLK.out]; rfl, d2, HOK2.out, HINS.out, ?_⟩
      have S7 := HS6.out.below (below_drewN (Below.refl _ _) nq)
      rw [← HM2.out] at S7
      exact S7
    · have HSEC := Lib.hid (Option.isSome_eq_false_iff.1 HS2.out)
      by_cases hgt : (d2.c.length : Int) < (mm : Int)
      · have hgd : decide ((d2.c.length : Int) < (mm : Int)) = true := by simpa using hgt
        have hgd2 : decide (d2.c.length < mm) = true := by simpa using hgt
        by_cases hs : (d2.s : Int) < 16
        · have hsd : decide ((d2.s : Int) < 16) = true := by simpa using hs
          have HZ := Lib.hid (show ((d2.s : Int) + 1) = ((d2.s + 1 : Nat) : Int) by omega)
          have hs2 : 2 ≤ d2.s + 1 := by omega
          have hs16 : d2.s + 1 ≤ 16 := by omega
          go_quiet (fail)
          go_wp2_with fail
          rw [HZ.out]
          have S7 := HS6.out.below (below_drewN (Below.refl _ _) nq)
          have S8 : Sat w0 (w5.drewN nq) (tab1 t seed d2.s d2.g d2.c (m + 1) * R) := S7.cong (by unfold tabN; rw [Option.isNone_iff_eq_none.1 HSEC.out])
          refine (dpart hs16 S8).mono ?_
          rintro en w6 ⟨rfl, g', S9⟩
          have HS9 := Lib.hid S9
          clear S7 S8 S9 HS6 HZ
          go_wp2_with fail
          go_ret
          obtain ⟨q1, q2⟩ := parted_ok HOK2.out (Option.isNone_iff_eq_none.1 HSEC.out) hs2 hs16 (.inl rfl) g'
          refine ⟨by rw [← HBN.out, HLK.out]; rfl, _, q1, by rw [q2]; exact HINS.out, ?_⟩
          rw [tabD, q2, HM2.out]
          exact HS9.out
        · have hsd : decide ((d2.s : Int) < 16) = false := by simpa using hs
          go_quiet (fail)
          go_wp2_with fail
          go_ret
          refine ⟨by rw [← HBN.out, HLK.out]; rfl, d2, HOK2.out, HINS.out, ?_⟩
          have S7 := HS6.out.below (below_drewN (Below.refl _ _) nq)
          rw [← HM2.out] at S7
          exact S7
      · have hgd : decide ((d2.c.length : Int) < (mm : Int)) = false := by simpa using hgt
        have hgd2 : decide (d2.c.length < mm) = false := by simpa using hgt
        go_quiet (fail)
        go_wp2_with fail
        go_ret
        refine ⟨by rw [← HBN.out, HLK.out]; rfl, d2, HOK2.out, HINS.out, ?_⟩
        have S7 := HS6.out.below (below_drewN (Below.refl _ _) nq)
        rw [← HM2.out] at S7
        exact S7
/-- The table at t, of this seed, has the pairs l (in whatever order). -/
def dtb (t : Nat) (seed : Int) (l : List (ByteArray × Value)) : HP := ex fun d => wh (DS.Ok seed d ∧ (kvs d.nodes).Perm l) (tabD t seed d)
section
variable {w0 w : World} {t : Nat} {seed : Int} {l l' : List (ByteArray × Value)} {R : HP}
theorem dtb_perm (h : l.Perm l') : dtb t seed l = dtb t seed l' := by
  unfold dtb
  congr 1
  funext d
  congr 1
  exact propext ⟨fun ⟨a, b⟩ => ⟨a, b.trans h⟩, fun ⟨a, b⟩ => ⟨a, b.trans h.symm⟩⟩
theorem Sat.dtb_open (S : Sat w0 w (dtb t seed l * R)) : ∃ d, DS.Ok seed d ∧ (kvs d.nodes).Perm l ∧ Sat w0 w (tabD t seed d * R) := by
  obtain ⟨d, S⟩ := S.ex1
  obtain ⟨⟨a, b⟩, S⟩ := S.wh1
  exact ⟨d, a, b, S⟩
theorem Sat.dtb_shut {d : DS} (h1 : DS.Ok seed d) (h2 : (kvs d.nodes).Perm l) (S : Sat w0 w (tabD t seed d * R)) : Sat w0 w (dtb t seed l * R) := Sat.mk_ex1 d (Sat.mk_wh1 ⟨h1, h2⟩ S)
theorem Sat.dtb_nodup (S : Sat w0 w (dtb t seed l * R)) : (l.map (·.1)).Nodup ∧ l.length ≤ 1000000000000 ∧ ∀ p ∈ l, p.1.size ≤ maxLen := by
  obtain ⟨d, h1, h2, _⟩ := Sat.dtb_open S
  refine ⟨((h2.map (·.1)).nodup_iff).1 (by rw [kvs_fst]; exact h1.nd), by rw [← h2.length_eq]; simpa [kvs] using h1.big, fun p hp => ?_⟩
  obtain ⟨x, hx, rfl⟩ := List.mem_map.1 (h2.mem_iff.2 hp)
  exact h1.ks x hx
theorem lk_perm (h : l.Perm l') (hn : (l.map (·.1)).Nodup) (k : ByteArray) : lk l k = lk l' k := by
  cases hl : lk l k with
  | none =>
    cases hl' : lk l' k with
    | none => rfl
    | some v =>
      rw [lk_some hn (h.mem_iff.2 (lk_mem hl'))] at hl
      cases hl
  | some v => exact (lk_some ((h.map _).nodup_iff.1 hn) (h.mem_iff.1 (lk_mem hl))).symm
theorem dtbNew (S : Sat w0 w R) : Calls Try.prog 45 #[.int .u64 seed] w fun en w' => ∃ t, en = .returned (pt t) ∧ Sat w0 w' (dtb t seed [] * R) := by
  refine (dNew (seed := seed) S).mono ?_
  rintro en w' ⟨t, g, rfl, S1⟩
  refine ⟨t, rfl, Sat.dtb_shut (d := ⟨2, g, List.replicate 4 [], none⟩) ⟨Half.made seed (b := 2) (by decide) (by decide), (by rintro e he; cases he), by simp [DS.nodes, DS.nodes2], by simp [DS.nodes, DS.nodes2], by simp [DS.nodes, DS.nodes2], (by rintro e he; cases he)⟩ (by simp [DS.nodes, DS.nodes2, kvs]) ?_⟩
  exact S1
theorem dtbLen (S : Sat w0 w (dtb t seed l * R)) : Calls Try.prog 44 #[pt t] w fun en w' => en = .returned (.int .i64 l.length) ∧ w = w' := by
  obtain ⟨d, h1, h2, S1⟩ := Sat.dtb_open S
  rw [show l.length = d.nodes.length by rw [← h2.length_eq]; simp [kvs]]
  exact tLen S1
theorem dtbGet {key : ByteArray} (hk : key.size ≤ maxLen) (S : Sat w0 w (dtb t seed l * R)) :
    Calls Try.prog 38 #[pt t, .string key] w fun en w' => en = .returned (getV l key) ∧ Sat w0 w' (dtb t seed l * R) := by
  obtain ⟨d, h1, h2, S1⟩ := Sat.dtb_open S
  refine (tGet hk h1 S1).mono ?_
  rintro en w' ⟨rfl, S2⟩
  refine ⟨?_, Sat.dtb_shut h1 h2 S2⟩
  unfold getV
  rw [lk_perm h2 (by rw [kvs_fst]; exact h1.nd)]
theorem dtbPut {key : ByteArray} (v : Int) (hk : key.size ≤ maxLen) (hb : l.length < 1000000000000) (S : Sat w0 w (dtb t seed l * R)) :
    Calls Try.prog 41 #[pt t, .string key, .int .i64 v] w fun en w' => en = .returned (.bool (!(lk l key).isSome)) ∧ Sat w0 w' (dtb t seed (ins l key (.int .i64 v)) * R) := by
  obtain ⟨d, h1, h2, S1⟩ := Sat.dtb_open S
  refine (tPut v hk (by rw [show d.nodes.length = l.length by rw [← h2.length_eq]; simp [kvs]]; exact hb) h1 S1).mono ?_
  rintro en w' ⟨rfl, d', h3, h4, S2⟩
  refine ⟨?_, Sat.dtb_shut h3 (h4.trans (ins_perm h2 _ _)) S2⟩
  rw [lk_perm h2 (by rw [kvs_fst]; exact h1.nd)]
theorem dtbDrop {key : ByteArray} (hk : key.size ≤ maxLen) (S : Sat w0 w (dtb t seed l * R)) :
    Calls Try.prog 53 #[pt t, .string key] w fun en w' => en = .returned (.bool (lk l key).isSome) ∧ Sat w0 w' (dtb t seed (era l key) * R) := by
  obtain ⟨d, h1, h2, S1⟩ := Sat.dtb_open S
  refine (tDrop hk h1 S1).mono ?_
  rintro en w' ⟨rfl, d', h3, h4, S2⟩
  refine ⟨?_, Sat.dtb_shut h3 (h4.trans (era_perm h2 _)) S2⟩
  rw [lk_perm h2 (by rw [kvs_fst]; exact h1.nd)]
end
end Go.Sl.DI64
