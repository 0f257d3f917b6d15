/-
  A chain of nodes of three cells (a key, the one before, the one behind), owned; a ring of them. Over any program.
-/
import Derived.Test.YthhapcgodofpkaaSl
namespace Go.Sl
open Go.RowKit
set_option linter.unusedVariables false

abbrev pt (b : Nat) : Value := .pointer (some ⟨b, 0, none⟩)
abbrev KN := Nat × ByteArray
/-- The block of a list's first node, or d. -/
def hdb (ys : List KN) (d : Nat) : Nat := match ys with | [] => d | y :: _ => y.1
/-- The block of a list's last node, or d. -/
def lsb : List KN → Nat → Nat
  | [], d => d
  | y :: ys, _ => lsb ys y.1
def nd (T b : Nat) (k : ByteArray) (p n : Nat) : HP := pts b (.cells #[.string k, pt p, pt n] T (0, 0))
/-- Nodes one behind the other: the first one's elder is p, the last one's next is n. -/
def chain (T : Nat) : Nat → List KN → Nat → HP
  | _, [], _ => emp
  | p, y :: ys, n => nd T y.1 y.2 p (hdb ys n) * chain T y.1 ys n

@[simp] theorem lsb_nil (d : Nat) : lsb [] d = d := rfl
@[simp] theorem lsb_cons (y : KN) (ys : List KN) (d : Nat) : lsb (y :: ys) d = lsb ys y.1 := rfl
@[simp] theorem hdb_nil (d : Nat) : hdb [] d = d := rfl
@[simp] theorem hdb_cons (y : KN) (ys : List KN) (d : Nat) : hdb (y :: ys) d = y.1 := rfl
theorem lsb_append : ∀ (ys zs : List KN) (d : Nat), lsb (ys ++ zs) d = lsb zs (lsb ys d)
  | [], _, _ => rfl
  | y :: ys, zs, d => lsb_append ys zs y.1
theorem hdb_append (ys zs : List KN) (d : Nat) : hdb (ys ++ zs) d = hdb ys (hdb zs d) := by cases ys <;> rfl

theorem chain_append (T : Nat) : ∀ (p : Nat) (ys zs : List KN) (n : Nat), chain T p (ys ++ zs) n = chain T p ys (hdb zs n) * chain T (lsb ys p) zs n
  | p, [], zs, n => by simp [chain, emp_mul]
  | p, y :: ys, zs, n => by
    simp only [List.cons_append, chain, chain_append T y.1 ys zs n, lsb_cons, hdb_append]
    ac_rfl

section
variable {w0 w : World} {T p n q : Nat} {R : HP}
/-- The last one's next is set. -/
theorem Sat.chain_next : ∀ {ys : List KN} {p : Nat} {R : HP}, ys ≠ [] → Sat w0 w (chain T p ys n * R) → ∀ d,
    w.cell? ⟨lsb ys d, 2, none⟩ = some (pt n) ∧ (∀ i, w.frozen? ⟨lsb ys d, i, none⟩ = false) ∧ ∀ n', Sat w0 (w.setCell ⟨lsb ys d, 2, none⟩ (pt n')) (chain T p ys n' * R)
  | [], _, _, h, _ => absurd rfl h
  | [y], p, R, _, S => fun d => by
    simp only [chain, hdb_nil, mul_emp] at S
    exact ⟨cell_of S.blk 2 rfl, frz_of S.blk, fun n' => by simp only [chain, hdb_nil, mul_emp]; exact S.setCell _⟩
  | y :: z :: ys, p, R, _, S => fun d => by
    rw [chain] at S
    have S1 : Sat w0 w (chain T y.1 (z :: ys) n * (nd T y.1 y.2 p (hdb (z :: ys) n) * R)) := S.cong (by ac_rfl)
    obtain ⟨a, b, c⟩ := Sat.chain_next (by simp) S1 y.1
    refine ⟨a, b, fun n' => ?_⟩
    rw [chain]
    exact (c n').cong (by simp only [hdb_cons]; ac_rfl)
/-- The first one's elder is set. -/
theorem Sat.chain_older {y : KN} {ys : List KN} (S : Sat w0 w (chain T p (y :: ys) n * R)) :
    w.cell? ⟨y.1, 1, none⟩ = some (pt p) ∧ (∀ i, w.frozen? ⟨y.1, i, none⟩ = false) ∧ ∀ p', Sat w0 (w.setCell ⟨y.1, 1, none⟩ (pt p')) (chain T p' (y :: ys) n * R) := by
  rw [chain, sep_assoc] at S
  refine ⟨cell_of S.blk 1 rfl, frz_of S.blk, fun p' => ?_⟩
  rw [chain, sep_assoc]
  exact S.setCell _
theorem Sat.chain_first {y : KN} {ys : List KN} (S : Sat w0 w (chain T p (y :: ys) n * R)) :
    w.cell? ⟨y.1, 0, none⟩ = some (.string y.2) ∧ w.cell? ⟨y.1, 1, none⟩ = some (pt p) ∧ w.cell? ⟨y.1, 2, none⟩ = some (pt (hdb ys n)) := by
  rw [chain, sep_assoc] at S
  exact ⟨cell_of S.blk 0 rfl, cell_of S.blk 1 rfl, cell_of S.blk 2 rfl⟩
theorem Sat.chain_apart : ∀ {ys : List KN} {p b : Nat} {o : Obj} {R : HP}, Sat w0 w (pts b o * (chain T p ys n * R)) → ∀ y ∈ ys, y.1 ≠ b
  | [], _, _, _, _, _ => by simp
  | z :: ys, p, b, o, R, S => by
    rw [chain, sep_assoc] at S
    intro y hy
    rcases List.mem_cons.1 hy with rfl | hy
    · exact (S.ne).symm
    · refine Sat.chain_apart (p := z.1) (R := nd T z.1 z.2 p (hdb ys n) * R) (o := o) ?_ y hy
      exact S.cong (by ac_rfl)
end

theorem Sat.chain_blk {w0 w : World} {T n : Nat} : ∀ {ys : List KN} {p : Nat} {R : HP}, Sat w0 w (chain T p ys n * R) → ∀ y ∈ ys, ∃ c, w.heap[y.1]? = some (.cells c T (0, 0))
  | [], _, _, _ => by simp
  | z :: ys, p, R, S => by
    rw [chain] at S
    intro y hy
    rcases List.mem_cons.1 hy with rfl | hy
    · rw [sep_assoc] at S; exact ⟨_, S.blk⟩
    · exact Sat.chain_blk (p := z.1) (R := nd T z.1 z.2 p (hdb ys n) * R) (S.cong (by ac_rfl)) y hy

/-- A ring: e, a node of no key, and ys. -/
def ring (T e : Nat) (ys : List KN) : HP := chain T (lsb ys e) ((e, ⟨#[]⟩) :: ys) e
theorem ring_eq (T e : Nat) (ys : List KN) : ring T e ys = nd T e ⟨#[]⟩ (lsb ys e) (hdb ys e) * chain T e ys e := rfl
theorem ring_split (T e x : Nat) (k : ByteArray) (pre post : List KN) :
    ring T e (pre ++ (x, k) :: post) = chain T (lsb post x) ((e, ⟨#[]⟩) :: pre) x * (nd T x k (lsb pre e) (hdb post e) * chain T x post e) := by
  unfold ring
  rw [← List.cons_append, chain_append, lsb_append]
  rfl

section
variable {w0 w : World} {T e x : Nat} {k : ByteArray} {pre post ys : List KN} {R : HP}
/-- A node is taken out: what is read, and what lies behind the two stores. -/
theorem Sat.ring_cut (S : Sat w0 w (ring T e (pre ++ (x, k) :: post) * R)) :
    w.cell? ⟨x, 0, none⟩ = some (.string k) ∧ w.cell? ⟨x, 1, none⟩ = some (pt (lsb pre e)) ∧ w.cell? ⟨x, 2, none⟩ = some (pt (hdb post e)) ∧
    w.cell? ⟨lsb pre e, 2, none⟩ = some (pt x) ∧ (∀ i, w.frozen? ⟨lsb pre e, i, none⟩ = false) ∧
    (∃ v, w.cell? ⟨hdb post e, 1, none⟩ = some (pt v)) ∧ (∀ i, w.frozen? ⟨hdb post e, i, none⟩ = false) ∧
    Sat w0 ((w.setCell ⟨lsb pre e, 2, none⟩ (pt (hdb post e))).setCell ⟨hdb post e, 1, none⟩ (pt (lsb pre e))) (nd T x k (lsb pre e) (hdb post e) * (ring T e (pre ++ post) * R)) := by
  rw [ring_split] at S
  have Sx : Sat w0 w (nd T x k (lsb pre e) (hdb post e) * (chain T (lsb post x) ((e, ⟨#[]⟩) :: pre) x * (chain T x post e * R))) := S.cong (by ac_rfl)
  have Sa : Sat w0 w (chain T (lsb post x) ((e, ⟨#[]⟩) :: pre) x * (nd T x k (lsb pre e) (hdb post e) * (chain T x post e * R))) := S.cong (by ac_rfl)
  obtain ⟨n1, n2, n3⟩ := Sa.chain_next (by simp) 0
  have S1 := n3 (hdb post e)
  simp only [lsb_cons] at n1 n2 S1
  refine ⟨cell_of Sx.blk 0 rfl, cell_of Sx.blk 1 rfl, cell_of Sx.blk 2 rfl, n1, n2, ?_⟩
  cases post with
  | nil =>
    have So : Sat w0 w (chain T (lsb [] x) ((e, ⟨#[]⟩) :: pre) x * (nd T x k (lsb pre e) (hdb [] e) * (chain T x [] e * R))) := Sa
    obtain ⟨o1, o2, _⟩ := So.chain_older
    obtain ⟨_, _, o3⟩ := S1.chain_older
    refine ⟨⟨_, o1⟩, o2, ?_⟩
    rw [List.append_nil]
    have := o3 (lsb pre e)
    simp only [chain, emp_mul, hdb_nil] at this ⊢
    exact this.cong (by rw [ring_eq]; ac_rfl)
  | cons y post =>
    have So : Sat w0 w (chain T x (y :: post) e * (chain T (lsb (y :: post) x) ((e, ⟨#[]⟩) :: pre) x * (nd T x k (lsb pre e) (hdb (y :: post) e) * R))) := Sa.cong (by ac_rfl)
    obtain ⟨o1, o2, _⟩ := So.chain_older
    have S2 : Sat w0 _ (chain T x (y :: post) e * (chain T (lsb (y :: post) x) ((e, ⟨#[]⟩) :: pre) (hdb (y :: post) e) * (nd T x k (lsb pre e) (hdb (y :: post) e) * R))) := S1.cong (by ac_rfl)
    obtain ⟨_, _, o3⟩ := S2.chain_older
    refine ⟨⟨_, o1⟩, o2, ?_⟩
    have := o3 (lsb pre e)
    refine this.cong ?_
    unfold ring
    rw [← List.cons_append, chain_append, lsb_append]
    simp only [lsb_cons, hdb_cons]
    ac_rfl
/-- A node is put at the end: two stores behind its own. -/
theorem Sat.ring_put (S : Sat w0 w (nd T x k (lsb ys e) e * (ring T e ys * R))) :
    w.cell? ⟨e, 1, none⟩ = some (pt (lsb ys e)) ∧ (∀ i, w.frozen? ⟨e, i, none⟩ = false) ∧ w.cell? ⟨lsb ys e, 2, none⟩ = some (pt e) ∧ (∀ i, w.frozen? ⟨lsb ys e, i, none⟩ = false) ∧
    Sat w0 ((w.setCell ⟨lsb ys e, 2, none⟩ (pt x)).setCell ⟨e, 1, none⟩ (pt x)) (ring T e (ys ++ [(x, k)]) * R) := by
  have S1 : Sat w0 w (chain T (lsb ys e) ((e, ⟨#[]⟩) :: ys) e * (nd T x k (lsb ys e) e * R)) := S.cong (by unfold ring; ac_rfl)
  obtain ⟨o1, o2, _⟩ := S1.chain_older
  obtain ⟨n1, n2, n3⟩ := S1.chain_next (by simp) 0
  simp only [lsb_cons] at n1 n2 n3
  refine ⟨o1, o2, n1, n2, ?_⟩
  obtain ⟨_, _, o3⟩ := (n3 x).chain_older
  refine (o3 x).cong ?_
  unfold ring
  rw [← List.cons_append, chain_append, lsb_append]
  simp only [lsb_cons, hdb_cons, lsb_nil, chain, hdb_nil, mul_emp]
  ac_rfl
theorem Sat.ring_end (S : Sat w0 w (ring T e ys * R)) : w.cell? ⟨e, 1, none⟩ = some (pt (lsb ys e)) ∧ w.cell? ⟨e, 2, none⟩ = some (pt (hdb ys e)) ∧ ∀ i, w.frozen? ⟨e, i, none⟩ = false := by
  have S1 : Sat w0 w (chain T (lsb ys e) ((e, ⟨#[]⟩) :: ys) e * R) := S
  exact ⟨S1.chain_first.2.1, S1.chain_first.2.2, S1.chain_older.2.1⟩
theorem Sat.ring_apart (S : Sat w0 w (ring T e ys * R)) : ∀ y ∈ ys, y.1 ≠ e := by
  rw [ring_eq, sep_assoc] at S
  exact S.chain_apart
theorem Sat.ring_blk (S : Sat w0 w (ring T e ys * R)) : (∃ c, w.heap[e]? = some (.cells c T (0, 0))) ∧ ∀ y ∈ ys, ∃ c, w.heap[y.1]? = some (.cells c T (0, 0)) := by
  have S1 : Sat w0 w (chain T (lsb ys e) ((e, ⟨#[]⟩) :: ys) e * R) := S
  exact ⟨S1.chain_blk (e, ⟨#[]⟩) (by simp), fun y hy => S1.chain_blk y (by simp [hy])⟩
/-- A node in the middle, read. -/
theorem Sat.ring_at (S : Sat w0 w (ring T e (pre ++ (x, k) :: post) * R)) : w.cell? ⟨x, 0, none⟩ = some (.string k) ∧ w.cell? ⟨x, 1, none⟩ = some (pt (lsb pre e)) ∧ w.cell? ⟨x, 2, none⟩ = some (pt (hdb post e)) ∧ ∀ i, w.frozen? ⟨x, i, none⟩ = false := by
  rw [ring_split] at S
  have Sx : Sat w0 w (nd T x k (lsb pre e) (hdb post e) * (chain T (lsb post x) ((e, ⟨#[]⟩) :: pre) x * (chain T x post e * R))) := S.cong (by ac_rfl)
  exact ⟨cell_of Sx.blk 0 rfl, cell_of Sx.blk 1 rfl, cell_of Sx.blk 2 rfl, frz_of Sx.blk⟩
end
end Go.Sl
