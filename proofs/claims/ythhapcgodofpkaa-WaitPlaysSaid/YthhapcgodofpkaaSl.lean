/-
  Assertions on parts of memory (owned blocks), joined by '*': the words in which the contracts of stateful functions are said. Over any program.
-/
import Derived.WalkKit
import Derived.MapKept
import Derived.LaidEqlPtr
import Derived.Lib.Hide
namespace Go.Sl
open Go.RowKit
set_option linter.unusedVariables false

abbrev PHeap := Nat → Option Obj
/-- An assertion on a part of memory. -/
def HP : Type := PHeap → Prop
def emp : HP := fun h => ∀ b, h b = none
/-- Block b is there, whole, and is o. -/
def pts (b : Nat) (o : Obj) : HP := fun h => h = fun i => if i = b then some o else none
def sep (A B : HP) : HP := fun h => ∃ h1 h2 : PHeap, (∀ b, h1 b = none ∨ h2 b = none) ∧ (∀ b, h b = (h1 b).or (h2 b)) ∧ A h1 ∧ B h2
instance : Mul HP := ⟨sep⟩
/-- For some x. -/
def ex {α : Type} (A : α → HP) : HP := fun h => ∃ x, A x h
/-- Where p holds. -/
def wh (p : Prop) (A : HP) : HP := fun h => p ∧ A h
/-- All that lay in w0. -/
def old (w0 : World) : HP := fun h => ∀ b, h b = w0.heap[b]?

theorem hp_ext {A B : HP} (h : ∀ x, A x ↔ B x) : A = B := funext fun x => propext (h x)

theorem mul_def (A B : HP) : A * B = sep A B := rfl

theorem sep_comm (A B : HP) : A * B = B * A := by
  refine hp_ext fun h => ⟨?_, ?_⟩ <;>
  · rintro ⟨h1, h2, hd, hu, a, b⟩
    refine ⟨h2, h1, fun b => (hd b).symm, fun b => ?_, b, a⟩
    rw [hu b]
    rcases hd b with e | e <;> rw [e] <;> simp

theorem sep_assoc (A B C : HP) : A * B * C = A * (B * C) := by
  refine hp_ext fun h => ⟨?_, ?_⟩
  · rintro ⟨h12, h3, hd, hu, ⟨h1, h2, hd', hu', a, b⟩, c⟩
    refine ⟨h1, fun i => (h2 i).or (h3 i), fun i => ?_, fun i => ?_, a, h2, h3, fun i => ?_, fun i => rfl, b, c⟩
    · rcases hd' i with e | e
      · exact .inl e
      · rcases hd i with e' | e'
        · rw [hu' i] at e'
          exact .inl (by cases h : h1 i <;> simp_all)
        · exact .inr (by simp [e, e'])
    · rw [hu i, hu' i]; cases h1 i <;> simp
    · rcases hd i with e' | e'
      · rw [hu' i] at e'
        exact .inl (by cases h : h1 i <;> simp_all)
      · exact .inr e'
  · rintro ⟨h1, h23, hd, hu, a, h2, h3, hd', hu', b, c⟩
    refine ⟨fun i => (h1 i).or (h2 i), h3, fun i => ?_, fun i => ?_, ⟨h1, h2, fun i => ?_, fun i => rfl, a, b⟩, c⟩
    · rcases hd' i with e | e
      · rcases hd i with e' | e'
        · exact .inl (by simp [e, e'])
        · rw [hu' i, e] at e'
          exact .inr (by simpa using e')
      · exact .inr e
    · show h i = ((h1 i).or (h2 i)).or (h3 i)
      rw [Option.or_assoc, hu i, hu' i]
    · rcases hd i with e' | e'
      · exact .inl e'
      · rw [hu' i] at e'
        exact .inr (by cases h : h2 i <;> simp_all)

instance : Std.Associative (α := HP) (· * ·) := ⟨sep_assoc⟩
instance : Std.Commutative (α := HP) (· * ·) := ⟨sep_comm⟩

theorem sep_left (A B C : HP) : A * (B * C) = B * (A * C) := by rw [← sep_assoc, sep_comm A B, sep_assoc]

theorem emp_mul (A : HP) : emp * A = A := by
  refine hp_ext fun h => ⟨?_, fun a => ⟨fun _ => none, h, fun _ => .inl rfl, fun b => by simp, fun _ => rfl, a⟩⟩
  rintro ⟨h1, h2, hd, hu, e, a⟩
  have : h = h2 := funext fun b => by rw [hu b, e b]; simp
  rw [this]; exact a
theorem mul_emp (A : HP) : A * emp = A := by rw [sep_comm, emp_mul]

theorem ex_mul {α : Type} (A : α → HP) (R : HP) : ex A * R = ex fun x => A x * R := by
  refine hp_ext fun h => ⟨?_, ?_⟩
  · rintro ⟨h1, h2, hd, hu, ⟨x, a⟩, r⟩; exact ⟨x, h1, h2, hd, hu, a, r⟩
  · rintro ⟨x, h1, h2, hd, hu, a, r⟩; exact ⟨h1, h2, hd, hu, ⟨x, a⟩, r⟩
theorem mul_ex {α : Type} (A : α → HP) (R : HP) : R * ex A = ex fun x => R * A x := by
  rw [sep_comm, ex_mul]; congr 1; funext x; exact sep_comm _ _
theorem wh_mul (p : Prop) (A R : HP) : wh p A * R = wh p (A * R) := by
  refine hp_ext fun h => ⟨?_, ?_⟩
  · rintro ⟨h1, h2, hd, hu, ⟨x, a⟩, r⟩; exact ⟨x, h1, h2, hd, hu, a, r⟩
  · rintro ⟨x, h1, h2, hd, hu, a, r⟩; exact ⟨h1, h2, hd, hu, ⟨x, a⟩, r⟩
theorem mul_wh (p : Prop) (A R : HP) : R * wh p A = wh p (R * A) := by rw [sep_comm, wh_mul, sep_comm]

/-- What the world w holds, w0 being where the whole began. -/
structure Sat (w0 w : World) (A : HP) : Prop where
  os : w.os = w0.os
  tape : w.tape = w0.tape
  output : w.output = w0.output
  size : w0.heap.size ≤ w.heap.size
  has : ∃ h : PHeap, A h ∧ ∀ b o, h b = some o → w.heap[b]? = some o

section
variable {w0 w w' : World} {A B C R : HP} {b : Nat} {o : Obj}

theorem Sat.cong (S : Sat w0 w A) (h : A = B) : Sat w0 w B := h ▸ S
theorem Sat.ex {α : Type} {A : α → HP} (S : Sat w0 w (ex A)) : ∃ x, Sat w0 w (A x) := by
  obtain ⟨a, b, c, d, h, ⟨x, hx⟩, hw⟩ := S
  exact ⟨x, a, b, c, d, h, hx, hw⟩
theorem Sat.ex1 {α : Type} {A : α → HP} (S : Sat w0 w (Sl.ex A * R)) : ∃ x, Sat w0 w (A x * R) := by rw [ex_mul] at S; exact S.ex
theorem Sat.mk_ex {α : Type} {A : α → HP} (x : α) (S : Sat w0 w (A x)) : Sat w0 w (Sl.ex A) := by
  obtain ⟨a, b, c, d, h, hx, hw⟩ := S
  exact ⟨a, b, c, d, h, ⟨x, hx⟩, hw⟩
theorem Sat.mk_ex1 {α : Type} {A : α → HP} (x : α) (S : Sat w0 w (A x * R)) : Sat w0 w (Sl.ex A * R) := by rw [ex_mul]; exact S.mk_ex x
theorem Sat.wh {p : Prop} (S : Sat w0 w (wh p A)) : p ∧ Sat w0 w A := by
  obtain ⟨a, b, c, d, h, ⟨x, hx⟩, hw⟩ := S
  exact ⟨x, a, b, c, d, h, hx, hw⟩
theorem Sat.wh1 {p : Prop} (S : Sat w0 w (Sl.wh p A * R)) : p ∧ Sat w0 w (A * R) := by rw [wh_mul] at S; exact S.wh
theorem Sat.mk_wh {p : Prop} (hp : p) (S : Sat w0 w A) : Sat w0 w (Sl.wh p A) := by
  obtain ⟨a, b, c, d, h, hx, hw⟩ := S
  exact ⟨a, b, c, d, h, ⟨hp, hx⟩, hw⟩
theorem Sat.mk_wh1 {p : Prop} (hp : p) (S : Sat w0 w (A * R)) : Sat w0 w (Sl.wh p A * R) := by rw [wh_mul]; exact S.mk_wh hp
theorem Sat.drop1 (S : Sat w0 w (A * B)) : Sat w0 w B := by
  obtain ⟨a, b, c, d, h, ⟨h1, h2, hd, hu, x, y⟩, hw⟩ := S
  refine ⟨a, b, c, d, h2, y, fun b o e => hw b o ?_⟩
  rw [hu b]
  rcases hd b with e' | e'
  · simp [e', e]
  · rw [e'] at e; cases e
theorem Sat.take1 (S : Sat w0 w (A * B)) : Sat w0 w A := by rw [sep_comm] at S; exact S.drop1
/-- A part of memory is said in other words. -/
theorem Sat.mono1 (S : Sat w0 w (A * R)) (h : ∀ x, A x → B x) : Sat w0 w (B * R) := by
  obtain ⟨a, b, c, d, g, ⟨h1, h2, hd, hu, x, y⟩, hw⟩ := S
  exact ⟨a, b, c, d, g, ⟨h1, h2, hd, hu, h _ x, y⟩, hw⟩
theorem Sat.env (S : Sat w0 w A) (h1 : w'.os = w.os) (h2 : w'.tape = w.tape) (h3 : w'.output = w.output) (h4 : w.heap.size ≤ w'.heap.size)
    (h5 : ∃ h, B h ∧ ∀ b o, h b = some o → w'.heap[b]? = some o) : Sat w0 w' B :=
  ⟨h1.trans S.os, h2.trans S.tape, h3.trans S.output, Nat.le_trans S.size h4, h5⟩

theorem Sat.p2 {A1 A2 : HP} (S : Sat w0 w (A1 * (A2 * R))) : Sat w0 w (A2 * (A1 * R)) := S.cong (by ac_rfl)
theorem Sat.p3 {A1 A2 A3 : HP} (S : Sat w0 w (A1 * (A2 * (A3 * R)))) : Sat w0 w (A3 * (A1 * (A2 * R))) := S.cong (by ac_rfl)
theorem Sat.p4 {A1 A2 A3 A4 : HP} (S : Sat w0 w (A1 * (A2 * (A3 * (A4 * R))))) : Sat w0 w (A4 * (A1 * (A2 * (A3 * R)))) := S.cong (by ac_rfl)
theorem Sat.p5 {A1 A2 A3 A4 A5 : HP} (S : Sat w0 w (A1 * (A2 * (A3 * (A4 * (A5 * R)))))) : Sat w0 w (A5 * (A1 * (A2 * (A3 * (A4 * R))))) := S.cong (by ac_rfl)
theorem Sat.p6 {A1 A2 A3 A4 A5 A6 : HP} (S : Sat w0 w (A1 * (A2 * (A3 * (A4 * (A5 * (A6 * R))))))) : Sat w0 w (A6 * (A1 * (A2 * (A3 * (A4 * (A5 * R)))))) := S.cong (by ac_rfl)

theorem Sat.p2' {A1 A2 : HP} (S : Sat w0 w (A1 * A2)) : Sat w0 w (A2 * A1) := S.cong (by ac_rfl)
theorem Sat.p3' {A1 A2 A3 : HP} (S : Sat w0 w (A1 * (A2 * A3))) : Sat w0 w (A3 * (A1 * A2)) := S.cong (by ac_rfl)
theorem Sat.p4' {A1 A2 A3 A4 : HP} (S : Sat w0 w (A1 * (A2 * (A3 * A4)))) : Sat w0 w (A4 * (A1 * (A2 * A3))) := S.cong (by ac_rfl)
theorem Sat.blk (S : Sat w0 w (pts b o * R)) : w.heap[b]? = some o := by
  obtain ⟨_, _, _, _, h, ⟨h1, h2, hd, hu, rfl, y⟩, hw⟩ := S
  exact hw b o (by rw [hu b]; simp)
theorem Sat.blk1 (S : Sat w0 w (pts b o)) : w.heap[b]? = some o := by
  obtain ⟨_, _, _, _, h, rfl, hw⟩ := S
  exact hw b o (by simp)
theorem Sat.lt (S : Sat w0 w (pts b o * R)) : b < w.heap.size := (Array.getElem?_eq_some_iff.1 S.blk).1
theorem Sat.ne {b' : Nat} {o' : Obj} (S : Sat w0 w (pts b o * (pts b' o' * R))) : b ≠ b' := by
  obtain ⟨_, _, _, _, h, ⟨h1, h2, hd, hu, rfl, h3, h4, hd', hu', rfl, y⟩, hw⟩ := S
  intro e
  have := hd b
  rw [hu' b] at this
  simp [e] at this
theorem Sat.old (S : Sat w0 w (Sl.old w0 * R)) : Below w0.heap.size w0 w := by
  obtain ⟨a, b, c, d, h, ⟨h1, h2, hd, hu, x, y⟩, hw⟩ := S
  refine ⟨a, b, c, d, fun k hk => ?_⟩
  obtain ⟨v, hv⟩ : ∃ v, w0.heap[k]? = some v := ⟨_, Array.getElem?_eq_getElem hk⟩
  rw [hw k v (by rw [hu k, x k, hv]; simp), hv]
theorem Sat.ge (S : Sat w0 w (pts b o * (Sl.old w0 * R))) : w0.heap.size ≤ b := by
  obtain ⟨_, _, _, _, h, ⟨h1, h2, hd, hu, rfl, h3, h4, hd', hu', x, y⟩, hw⟩ := S
  rcases Nat.lt_or_ge b w0.heap.size with hlt | hge
  · have := hd b
    rw [hu' b, x b, Array.getElem?_eq_getElem hlt] at this
    simp at this
  · exact hge
theorem Sat.start (w : World) : Sat w w (Sl.old w) := ⟨rfl, rfl, rfl, Nat.le_refl _, fun b => w.heap[b]?, fun _ => rfl, fun _ _ h => h⟩

theorem Sat.old1 (S : Sat w0 w (Sl.old w0)) : Below w0.heap.size w0 w := Sat.old (R := emp) (by rw [mul_emp]; exact S)
/-- Nothing that lay in w has turned. -/
theorem Sat.below (S : Sat w0 w A) (h : Below w.heap.size w w') : Sat w0 w' A := by
  obtain ⟨g, hg, hw⟩ := S.has
  exact S.env h.os h.tape h.output h.size ⟨g, hg, fun b o e => (h.block b (Array.getElem?_eq_some_iff.1 (hw b o e)).1).trans (hw b o e)⟩
theorem Sat.drew (S : Sat w0 w A) : Sat w0 w.drew A := S.below (Below.refl _ _).drew
theorem Sat.alloc (S : Sat w0 w A) (o : Obj) : Sat w0 (w.alloc o) (pts w.heap.size o * A) := by
  obtain ⟨h, x, hw⟩ := S.has
  refine S.env rfl rfl rfl (by simp) ⟨fun i => if i = w.heap.size then some o else h i, ⟨fun i => if i = w.heap.size then some o else none, h, fun i => ?_, fun i => ?_, rfl, x⟩, fun i u e => ?_⟩
  · by_cases e : i = w.heap.size
    · right
      cases hi : h i with
      | none => rfl
      | some u => exact absurd (Array.getElem?_eq_some_iff.1 (hw i u hi)).1 (by omega)
    · left; simp [e]
  · by_cases e : i = w.heap.size <;> simp [e]
  · by_cases e' : i = w.heap.size
    · simp [e'] at e
      subst e
      rw [e']
      show (w.heap.push _)[w.heap.size]? = _
      simp
    · simp [e'] at e
      have := hw i u e
      rw [Below.heap_alloc _ _ _ (Array.getElem?_eq_some_iff.1 this).1]
      exact this
/-- Block b turns, and no other one. -/
theorem Sat.put {o' : Obj} (S : Sat w0 w (pts b o * R)) (h1 : w'.os = w.os) (h2 : w'.tape = w.tape) (h3 : w'.output = w.output) (h4 : w.heap.size ≤ w'.heap.size)
    (h5 : w'.heap[b]? = some o') (h6 : ∀ i, i < w.heap.size → i ≠ b → w'.heap[i]? = w.heap[i]?) : Sat w0 w' (pts b o' * R) := by
  obtain ⟨h, ⟨g1, g2, hd, hu, rfl, y⟩, hw⟩ := S.has
  refine S.env h1 h2 h3 h4 ⟨fun i => if i = b then some o' else g2 i, ⟨fun i => if i = b then some o' else none, g2, fun i => ?_, fun i => ?_, rfl, y⟩, fun i u e => ?_⟩
  · by_cases e : i = b
    · right; have := hd i; simp [e] at this ⊢; exact this
    · left; simp [e]
  · by_cases e : i = b <;> simp [e]
  · by_cases e' : i = b
    · simp [e'] at e; subst e; rw [e']; exact h5
    · simp [e'] at e
      have := hw i u (by rw [hu i]; simp [e', e])
      rw [h6 i (Array.getElem?_eq_some_iff.1 this).1 e']
      exact this
theorem Sat.setCell {c : Array Value} {t : TypeId} {fr : Nat × Nat} {i : Nat} (S : Sat w0 w (pts b (.cells c t fr) * R)) (v : Value) :
    Sat w0 (w.setCell ⟨b, i, none⟩ v) (pts b (.cells (c.setIfInBounds i v) t fr) * R) := by
  obtain ⟨hlt, hb⟩ := Array.getElem?_eq_some_iff.1 S.blk
  refine S.put rfl rfl rfl (by simp [World.setCell]) ?_ (fun k _ hk => Below.heap_setCell _ _ _ _ hk)
  show (w.heap.modify b _)[b]? = _
  rw [Array.getElem?_eq_getElem (by rw [Array.size_modify]; exact hlt), Array.getElem_modify_self, hb]
  rfl
theorem Sat.putObj {o' : Obj} (S : Sat w0 w (pts b o * R)) : Sat w0 { w with heap := w.heap.setIfInBounds b o' } (pts b o' * R) := by
  have hlt := S.lt
  refine S.put rfl rfl rfl (by simp) ?_ (fun k _ hk => ?_)
  · simp [hlt]
  · show (w.heap.setIfInBounds b o')[k]? = _
    rw [Array.getElem?_setIfInBounds_ne (fun e => hk e.symm)]
end

/-! ### cells of a block -/
section
variable {w : World} {b : Nat} {c : Array Value} {t : TypeId} {fr : Nat × Nat} {v : Value}
theorem cell_of (h : w.heap[b]? = some (.cells c t fr)) (i : Nat) (hi : c[i]? = some v) : w.cell? ⟨b, i, none⟩ = some v := by simp [World.cell?, h, hi]
theorem frz_of (h : w.heap[b]? = some (.cells c t (0, 0))) (i : Nat) : w.frozen? ⟨b, i, none⟩ = false := by simp [World.frozen?, h]
end

section
variable {w : World} {b : Nat} {t : TypeId} {x0 x1 x2 x3 x4 x5 x6 x7 : Value}
theorem blk1 (h : w.heap[b]? = some (.cells #[x0] t (0, 0))) : w.cell? ⟨b, 0, none⟩ = some x0 ∧ ∀ i, w.frozen? ⟨b, i, none⟩ = false := ⟨cell_of h 0 rfl, frz_of h⟩
theorem blk2 (h : w.heap[b]? = some (.cells #[x0, x1] t (0, 0))) : w.cell? ⟨b, 0, none⟩ = some x0 ∧ w.cell? ⟨b, 1, none⟩ = some x1 ∧ ∀ i, w.frozen? ⟨b, i, none⟩ = false := ⟨cell_of h 0 rfl, cell_of h 1 rfl, frz_of h⟩
theorem blk3 (h : w.heap[b]? = some (.cells #[x0, x1, x2] t (0, 0))) : w.cell? ⟨b, 0, none⟩ = some x0 ∧ w.cell? ⟨b, 1, none⟩ = some x1 ∧ w.cell? ⟨b, 2, none⟩ = some x2 ∧ ∀ i, w.frozen? ⟨b, i, none⟩ = false := ⟨cell_of h 0 rfl, cell_of h 1 rfl, cell_of h 2 rfl, frz_of h⟩
theorem blk4 (h : w.heap[b]? = some (.cells #[x0, x1, x2, x3] t (0, 0))) : w.cell? ⟨b, 0, none⟩ = some x0 ∧ w.cell? ⟨b, 1, none⟩ = some x1 ∧ w.cell? ⟨b, 2, none⟩ = some x2 ∧ w.cell? ⟨b, 3, none⟩ = some x3 ∧ ∀ i, w.frozen? ⟨b, i, none⟩ = false := ⟨cell_of h 0 rfl, cell_of h 1 rfl, cell_of h 2 rfl, cell_of h 3 rfl, frz_of h⟩
theorem blk5 (h : w.heap[b]? = some (.cells #[x0, x1, x2, x3, x4] t (0, 0))) : w.cell? ⟨b, 0, none⟩ = some x0 ∧ w.cell? ⟨b, 1, none⟩ = some x1 ∧ w.cell? ⟨b, 2, none⟩ = some x2 ∧ w.cell? ⟨b, 3, none⟩ = some x3 ∧ w.cell? ⟨b, 4, none⟩ = some x4 ∧ ∀ i, w.frozen? ⟨b, i, none⟩ = false := ⟨cell_of h 0 rfl, cell_of h 1 rfl, cell_of h 2 rfl, cell_of h 3 rfl, cell_of h 4 rfl, frz_of h⟩
end

/-- The world is forgotten, but for what is said of it. -/
theorem gen_w {w0 w : World} {A : HP} {K : Act → World → Prop} {a : Act} (S : Sat w0 w A) (k : ∀ w', Sat w0 w' A → K a w') : K a w := k w S

section
variable {P : Program} (w : World)
theorem run_neq_ptr_same {tp te : TypeId} {j : TypeInfo} (a : Addr) (hp : P.underlying tp = some (.pointer te)) (hte : P.info? te = some j) :
    (binOp .neq tp (.pointer (some a)) (.pointer (some a))).run P w = .ok (.bool false) w := by
  have h : ∀ d : Nat, (Op.equalIn (d + 1) tp (.pointer (some a)) (.pointer (some a))).run P w = .ok true w := fun d => by
    simp [Op.equalIn, run_underlying hp, sizeOf, typeInfo, hte, run_sameAddr_same]
  simp only [binOp]
  simp [Op.equal, Op.maxDepth, h 9999]
theorem run_neq_ptr_other {tp te : TypeId} {j : TypeInfo} {a b : Addr} {ca cb : Array Value} {ta tb : TypeId} (hp : P.underlying tp = some (.pointer te)) (hte : P.info? te = some j) (hsz : j.size ≠ 0)
    (hne : a ≠ b) (ha : w.heap[a.block]? = some (.cells ca ta (0, 0))) (hb : w.heap[b.block]? = some (.cells cb tb (0, 0))) :
    (binOp .neq tp (.pointer (some a)) (.pointer (some b))).run P w = .ok (.bool true) w := by
  have h : ∀ d : Nat, (Op.equalIn (d + 1) tp (.pointer (some a)) (.pointer (some b))).run P w = .ok false w := fun d => by
    simp [Op.equalIn, run_underlying hp, sizeOf, typeInfo, hte, hsz, run_sameAddr_other w hne ha hb]
  simp only [binOp]
  simp [Op.equal, Op.maxDepth, h 9999]
end

/-! ### a list of assertions -/
def star : List HP → HP
  | [] => emp
  | A :: l => A * star l
@[simp] theorem star_nil : star [] = emp := rfl
theorem star_cons (A : HP) (l : List HP) : star (A :: l) = A * star l := rfl
theorem star_append : ∀ l m : List HP, star (l ++ m) = star l * star m
  | [], m => by simp [star, emp_mul]
  | A :: l, m => by simp only [List.cons_append, star, star_append l m]; ac_rfl
theorem star_perm {l m : List HP} (h : l.Perm m) : star l = star m := by
  induction h with
  | nil => rfl
  | cons A _ ih => simp only [star, ih]
  | swap A B l => simp only [star]; ac_rfl
  | trans _ _ h1 h2 => exact h1.trans h2
end Go.Sl
