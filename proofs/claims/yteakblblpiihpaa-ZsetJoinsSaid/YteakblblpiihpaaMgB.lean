/-
  The contracts of package skip's functions: New, height.
  The contracts of package skip's functions: has, Rank, Below.
  The contracts of package skip's functions: the closures, to, has, Len, ready, Rank, Below.
  The contracts of package skip's functions: down.
  Skip lists in plain words: what a pair that comes, or goes, does to the links of a level. Over any program.
  Skip lists: the way down, in plain words; a trail in memory. Over any program.
  Skip lists in memory: nodes with a row of links, one a level; what a link leads to. Over any program.
  Rows that are read and rows that were made (the printed words' kinds), beside owned blocks.
-/
import Derived.Test.YteakblblpiihpaaMgA
import Derived.Test.YteakblblpiihpaaWWords
import Derived.Deep.MidRow
import Derived.Test.YteakblblpiihpaaProg
import Derived.Test.YteakblblpiihpaaPZsx4
import Derived.BigRegion
import Derived.KernelRfl
import Derived.Lib.Hide
import Derived.WalkSpells
import Derived.Deep.Cut
import Derived.Deep.RegionHeld3
import Derived.Deep.LoopGhost
import Derived.Deep.QuietTactic
import Derived.BigQuiet
import Derived.IntWalk
import Derived.WalkSmall
import Derived.Laws.Rows
import Derived.Laws.StructEq
import Derived.Laws.OwnMore
/-! ### Kd -/
namespace Go.Sl
open Go.RowKit Go.Proofs.YteakblblpiihpaaW.PrintWords
set_option linter.unusedVariables false

/-- A row that was made, with all that was made beside it: it stays as it is. -/
def made {α : Type} (d : Kd α) (e : Nat) (v : Value) (xs : List α) : HP :=
  ex fun p : World × Nat => wh (d.R e p.1 p.2 (fun _ => True) v xs) (fun h => ∀ b, h b = if p.2 ≤ b then p.1.heap[b]? else none)

section
variable {α : Type} {d : Kd α} {e : Nat} {w0 w w' : World} {v : Value} {xs : List α} {A R : HP}
theorem Sat.made_keep {ok : Nat → Prop} (S : Sat w0 w A) (hb : Below w.heap.size w w') (h : d.R e w' w.heap.size ok v xs) : Sat w0 w' (made d e v xs * A) := by
  obtain ⟨g, hg, hw⟩ := S.has
  unfold made
  rw [ex_mul]
  refine Sat.mk_ex (w', w.heap.size) ?_
  refine Sat.mk_wh1 (Kd.R_mono h (fun _ _ => trivial)) ?_
  refine S.env hb.os hb.tape hb.output hb.size ⟨fun b => if w.heap.size ≤ b then w'.heap[b]? else g b, ⟨fun b => if w.heap.size ≤ b then w'.heap[b]? else none, g, fun b => ?_, fun b => ?_, fun b => rfl, hg⟩, fun b o ho => ?_⟩
  · by_cases hle : w.heap.size ≤ b
    · right
      cases hgb : g b with
      | none => rfl
      | some u => exact absurd (Array.getElem?_eq_some_iff.1 (hw b u hgb)).1 (by omega)
    · left; simp [hle]
  · by_cases hle : w.heap.size ≤ b
    · simp only [hle, if_true]
      have : g b = none := by
        cases hgb : g b with
        | none => rfl
        | some u => exact absurd (Array.getElem?_eq_some_iff.1 (hw b u hgb)).1 (by omega)
      rw [this]; simp
    · simp [hle]
  · by_cases hle : w.heap.size ≤ b
    · simpa [hle] using ho
    · simp only [hle, if_false] at ho
      have := hw b o ho
      exact (hb.block b (by omega)).trans this
theorem Sat.made_reads (S : Sat w0 w (made d e v xs * R)) : ∃ A c, v = .slice A xs.length c ∧ xs.length ≤ c ∧ d.C w A xs.length xs := by
  unfold made at S
  obtain ⟨p, S⟩ := S.ex1
  obtain ⟨h, S⟩ := S.wh1
  obtain ⟨g, ⟨g1, g2, hd, hu, hg1, _⟩, hw⟩ := S.has
  have h2 := Kd.R_step (w1 := w) (Kd.R_bound h) (fun k hk hlt => by
    obtain ⟨_, hge, _⟩ := hk
    obtain ⟨o, ho⟩ : ∃ o, p.1.heap[k]? = some o := ⟨_, Array.getElem?_eq_getElem hlt⟩
    rw [ho]
    refine hw k o ?_
    rw [hu k, hg1 k, if_pos hge, ho]; simp)
  exact Kd.R_reads h2
theorem Sat.made_at {A0 : Option Addr} {n c : Nat} (S : Sat w0 w (made d e (.slice A0 n c) xs * R)) : d.C w A0 xs.length xs := by
  obtain ⟨A', c', e1, _, h⟩ := S.made_reads
  injection e1 with e1 e2 e3
  subst e1
  exact h
end

/-- A row of texts. -/
theorem readsStr {w : World} {g : Nat} {xs : List ByteArray} (hl : xs.length ≤ 9223372036854775807) (h : ∀ j u, (xs.map Value.string)[j]? = some u → w.cell? ⟨g, j, none⟩ = some u) : Kd.C Kd.string w (some ⟨g, 0, none⟩) xs.length xs := by
  refine ⟨rfl, hl, fun _ => ⟨_, rfl, fun j p hp => ⟨[.string p], rfl, rfl, fun i u hi => ?_⟩⟩⟩
  have hi0 : i = 0 := by
    have := (List.getElem?_eq_some_iff.1 hi).1
    simp at this; exact this
  subst hi0
  simp only [List.getElem?_cons_zero, Option.some.injEq] at hi
  subst hi
  have := h j (.string p) (by rw [List.getElem?_map, hp]; rfl)
  have e1 : (⟨g, 0, none⟩ : Addr).add (j * (Kd.string).sz + 0) = ⟨g, j, none⟩ := by
    show (⟨g, 0, none⟩ : Addr).add (j * 1 + 0) = _
    unfold Addr.add
    by_cases hj : j = 0 <;> simp [hj]
  rw [e1]
  exact this
theorem readsNone {w : World} {α : Type} (d : Kd α) (A : Option Addr) : Kd.C d w A 0 [] := ⟨rfl, by omega, fun h => by omega⟩
theorem Sat.row_str {w0 w : World} {e : Nat} {v : Value} {n : Nat} {xs : List ByteArray} {R : HP} (hn : n = xs.length) (S : Sat w0 w (row e 1 v n (xs.map Value.string) * R)) :
    ∃ A c, v = .slice A xs.length c ∧ xs.length ≤ c ∧ Kd.C Kd.string w A xs.length xs := by
  subst hn
  obtain ⟨hl, h⟩ := S.row_open
  rcases h with ⟨rfl, h0, hx, _⟩ | ⟨g, cap, cur, rfl, hn, hm, hs, ht, S1⟩
  · have : xs = [] := by cases xs with | nil => rfl | cons a b => cases hx
    subst this
    exact ⟨none, 0, rfl, Nat.le_refl _, readsNone _ _⟩
  · refine ⟨_, cap, rfl, hn, readsStr (by unfold maxLen at hm; omega) fun j u hj => ?_⟩
    obtain ⟨g', e1, hc⟩ := S.row_cells j u hj
    injection e1 with e1
    injection e1 with e1
    subst e1
    exact hc
theorem Sat.row_at {w0 w : World} {e : Nat} {A : Option Addr} {m c n : Nat} {xs : List ByteArray} {R : HP} (hn : n = xs.length) (S : Sat w0 w (row e 1 (.slice A m c) n (xs.map Value.string) * R)) : Kd.C Kd.string w A xs.length xs := by
  obtain ⟨A', c', e1, _, h⟩ := S.row_str hn
  injection e1 with e1 e2 e3
  subst e1
  exact h
end Go.Sl
/-! ### Sk -/
namespace Go.Sl
open Go.RowKit
set_option linter.unusedVariables false
set_option linter.unusedSimpArgs false

/-- A node: where it lies, where its links lie, its member and score, in how many levels it stands. -/
structure SN where
  b : Nat
  g : Nat
  m : ByteArray
  s : Int
  h : Nat
/-- The cells of a row of links. -/
def lks (h : Nat) (L : Nat → Value × Value) : List Value := (List.range (2 * h)).map fun j => if j % 2 = 0 then (L (j / 2)).1 else (L (j / 2)).2
theorem lks_length (h : Nat) (L : Nat → Value × Value) : (lks h L).length = 2 * h := by simp [lks]
theorem lks_to {h k : Nat} {L : Nat → Value × Value} (hk : k < h) : (lks h L)[k * 2]? = some (L k).1 := by
  unfold lks
  rw [List.getElem?_map, List.getElem?_range (by omega)]
  simp [show k * 2 % 2 = 0 by omega]
theorem lks_by {h k : Nat} {L : Nat → Value × Value} (hk : k < h) : (lks h L)[k * 2 + 1]? = some (L k).2 := by
  unfold lks
  rw [List.getElem?_map, List.getElem?_range (by omega)]
  simp [show (k * 2 + 1) % 2 = 1 by omega, show (k * 2 + 1) / 2 = k by omega]
theorem lks_set_to (h k : Nat) (L : Nat → Value × Value) (u : Value) : (lks h L).set (k * 2) u = lks h (fun j => if j = k then (u, (L j).2) else L j) := by
  apply List.ext_getElem?
  intro i
  rw [List.getElem?_set]
  by_cases e : k * 2 = i
  · subst e
    rw [if_pos rfl, lks_length]
    by_cases hk : k < h
    · rw [if_pos (by omega), lks_to hk]; simp
    · rw [if_neg (by omega), List.getElem?_eq_none (by rw [lks_length]; omega)]
  · rw [if_neg e]
    by_cases hi : i < 2 * h
    · unfold lks
      rw [List.getElem?_map, List.getElem?_map, List.getElem?_range hi]
      by_cases h2 : i % 2 = 0
      · have : ¬ i / 2 = k := by omega
        simp [h2, this]
      · by_cases h3 : i / 2 = k
        · simp [h2, h3]
        · simp [h2, h3]
    · rw [List.getElem?_eq_none (by rw [lks_length]; omega), List.getElem?_eq_none (by rw [lks_length]; omega)]
theorem lks_set_by (h k : Nat) (L : Nat → Value × Value) (u : Value) : (lks h L).set (k * 2 + 1) u = lks h (fun j => if j = k then ((L j).1, u) else L j) := by
  apply List.ext_getElem?
  intro i
  rw [List.getElem?_set]
  by_cases e : k * 2 + 1 = i
  · subst e
    rw [if_pos rfl, lks_length]
    by_cases hk : k < h
    · rw [if_pos (by omega), lks_by hk]; simp
    · rw [if_neg (by omega), List.getElem?_eq_none (by rw [lks_length]; omega)]
  · rw [if_neg e]
    by_cases hi : i < 2 * h
    · unfold lks
      rw [List.getElem?_map, List.getElem?_map, List.getElem?_range hi]
      by_cases h2 : i % 2 = 0
      · by_cases h3 : i / 2 = k
        · simp [h2, h3]
        · simp [h2, h3]
      · have : ¬ i / 2 = k := by omega
        simp [h2, this]
    · rw [List.getElem?_eq_none (by rw [lks_length]; omega), List.getElem?_eq_none (by rw [lks_length]; omega)]

abbrev Lk := Nat → Nat → Value × Value
/-- A link is another one. -/
def upTo1 (L : Lk) (b k : Nat) (u : Value) : Lk := fun b' k' => if b' = b then (if k' = k then (u, (L b' k').2) else L b' k') else L b' k'
def upBy1 (L : Lk) (b k : Nat) (u : Value) : Lk := fun b' k' => if b' = b then (if k' = k then ((L b' k').1, u) else L b' k') else L b' k'
def snode (TN TL : Nat) (L : Lk) (x : SN) : HP := pts x.b (.cells #[.string x.m, .int .i64 x.s, .slice (some ⟨x.g, 0, none⟩) x.h x.h] TN (0, 0)) * pts x.g (.cells (lks x.h (L x.b)).toArray TL (0, 0))
def sks (TN TL : Nat) (L : Lk) (ns : List SN) : HP := star (ns.map (snode TN TL L))
theorem sks_nil (TN TL : Nat) (L : Lk) : sks TN TL L [] = emp := rfl
theorem sks_cons (TN TL : Nat) (L : Lk) (x : SN) (ns : List SN) : sks TN TL L (x :: ns) = snode TN TL L x * sks TN TL L ns := rfl
theorem sks_append (TN TL : Nat) (L : Lk) (xs ys : List SN) : sks TN TL L (xs ++ ys) = sks TN TL L xs * sks TN TL L ys := by
  unfold sks; rw [List.map_append, star_append]
theorem sks_mid (TN TL : Nat) (L : Lk) (pre post : List SN) (x : SN) : sks TN TL L (pre ++ x :: post) = snode TN TL L x * (sks TN TL L pre * sks TN TL L post) := by
  rw [sks_append, sks_cons]; ac_rfl
theorem sks_congr {TN TL : Nat} {L L' : Lk} {ns : List SN} (h : ∀ x ∈ ns, L x.b = L' x.b) : sks TN TL L ns = sks TN TL L' ns := by
  unfold sks
  congr 1
  refine List.map_congr_left fun x hx => ?_
  unfold snode
  rw [h x hx]
theorem up1_off {L : Lk} {b k : Nat} {u : Value} {b' : Nat} (h : b' ≠ b) : upTo1 L b k u b' = L b' := by funext k'; unfold upTo1; rw [if_neg h]
theorem up2_off {L : Lk} {b k : Nat} {u : Value} {b' : Nat} (h : b' ≠ b) : upBy1 L b k u b' = L b' := by funext k'; unfold upBy1; rw [if_neg h]

section
variable {w0 w : World} {TN TL k : Nat} {L : Lk} {pre post : List SN} {x : SN} {R : HP}
theorem Sat.snode_cells (S : Sat w0 w (snode TN TL L x * R)) : w.cell? ⟨x.b, 0, none⟩ = some (.string x.m) ∧ w.cell? ⟨x.b, 1, none⟩ = some (.int .i64 x.s) ∧ w.cell? ⟨x.b, 2, none⟩ = some (.slice (some ⟨x.g, 0, none⟩) x.h x.h) := by
  unfold snode at S
  rw [sep_assoc] at S
  obtain ⟨a, b, c, _⟩ := blk3 S.blk
  exact ⟨a, b, c⟩
theorem Sat.snode_link (hk : k < x.h) (S : Sat w0 w (snode TN TL L x * R)) :
    w.cell? ⟨x.g, k * 2, none⟩ = some (L x.b k).1 ∧ w.cell? ⟨x.g, k * 2 + 1, none⟩ = some (L x.b k).2 ∧ (∀ i, w.frozen? ⟨x.g, i, none⟩ = false) ∧
    (∀ u, Sat w0 (w.setCell ⟨x.g, k * 2, none⟩ u) (snode TN TL (upTo1 L x.b k u) x * R)) ∧ (∀ u, Sat w0 (w.setCell ⟨x.g, k * 2 + 1, none⟩ u) (snode TN TL (upBy1 L x.b k u) x * R)) := by
  unfold snode at S ⊢
  rw [sep_assoc] at S
  have S1 := S.p2
  refine ⟨cell_of S1.blk _ (by simpa using lks_to hk), cell_of S1.blk _ (by simpa using lks_by hk), frz_of S1.blk, fun u => ?_, fun u => ?_⟩
  · refine (S1.setCell (i := k * 2) u).cong ?_
    rw [List.setIfInBounds_toArray, lks_set_to]
    have : (fun j => if j = k then (u, (L x.b j).2) else L x.b j) = upTo1 L x.b k u x.b := by funext j; unfold upTo1; rw [if_pos rfl]
    rw [this]
    ac_rfl
  · refine (S1.setCell (i := k * 2 + 1) u).cong ?_
    rw [List.setIfInBounds_toArray, lks_set_by]
    have : (fun j => if j = k then ((L x.b j).1, u) else L x.b j) = upBy1 L x.b k u x.b := by funext j; unfold upBy1; rw [if_pos rfl]
    rw [this]
    ac_rfl
theorem Sat.sks_at (S : Sat w0 w (sks TN TL L (pre ++ x :: post) * R)) : Sat w0 w (snode TN TL L x * (sks TN TL L pre * (sks TN TL L post * R))) := S.cong (by rw [sks_mid]; ac_rfl)
theorem Sat.sks_link (hk : k < x.h) (hn : ((pre ++ x :: post).map (·.b)).Nodup) (S : Sat w0 w (sks TN TL L (pre ++ x :: post) * R)) :
    w.cell? ⟨x.g, k * 2, none⟩ = some (L x.b k).1 ∧ w.cell? ⟨x.g, k * 2 + 1, none⟩ = some (L x.b k).2 ∧ (∀ i, w.frozen? ⟨x.g, i, none⟩ = false) ∧
    (∀ u, Sat w0 (w.setCell ⟨x.g, k * 2, none⟩ u) (sks TN TL (upTo1 L x.b k u) (pre ++ x :: post) * R)) ∧ (∀ u, Sat w0 (w.setCell ⟨x.g, k * 2 + 1, none⟩ u) (sks TN TL (upBy1 L x.b k u) (pre ++ x :: post) * R)) := by
  have hn2 : ∀ y ∈ pre ++ post, y.b ≠ x.b := by
    rw [List.map_append, List.map_cons] at hn
    have h1 := List.nodup_append.1 hn
    have h2 := (List.nodup_cons.1 h1.2.1).1
    intro y hy e
    rcases List.mem_append.1 hy with h | h
    · exact h1.2.2 y.b (List.mem_map.2 ⟨y, h, rfl⟩) x.b (by simp) e
    · exact h2 (List.mem_map.2 ⟨y, h, e⟩)
  obtain ⟨a, b, c, d, e⟩ := S.sks_at.snode_link hk
  refine ⟨a, b, c, fun u => (d u).cong ?_, fun u => (e u).cong ?_⟩
  · rw [sks_mid, sks_congr (ns := pre) (fun y hy => (up1_off (L := L) (k := k) (u := u) (hn2 y (by simp [hy]))).symm), sks_congr (ns := post) (fun y hy => (up1_off (L := L) (k := k) (u := u) (hn2 y (by simp [hy]))).symm)]
    ac_rfl
  · rw [sks_mid, sks_congr (ns := pre) (fun y hy => (up2_off (L := L) (k := k) (u := u) (hn2 y (by simp [hy]))).symm), sks_congr (ns := post) (fun y hy => (up2_off (L := L) (k := k) (u := u) (hn2 y (by simp [hy]))).symm)]
    ac_rfl
end

/-! ### what links lead to -/
/-- The next node of a level, and how far on it is. -/
def nx (k : Nat) : List SN → Option (SN × Nat)
  | [] => none
  | y :: ys => if k < y.h then some (y, 1) else (nx k ys).map fun p => (p.1, p.2 + 1)
def LinkOk (k : Nat) (post : List SN) (p : Value × Value) : Prop := match nx k post with
  | none => p.1 = .pointer none ∧ ∃ n, p.2 = .int .i64 n
  | some (y, d) => p.1 = pt y.b ∧ p.2 = .int .i64 d
/-- All links of a level are right. -/
def GoodAt (k : Nat) (ns : List SN) (L : Lk) : Prop := ∀ pre x post, ns = pre ++ x :: post → k < x.h → LinkOk k post (L x.b k)
theorem nx_none {k : Nat} : ∀ {l : List SN}, nx k l = none ↔ ∀ y ∈ l, y.h ≤ k
  | [] => by simp [nx]
  | y :: ys => by
    unfold nx
    by_cases h : k < y.h
    · simp only [if_pos h, reduceCtorEq, List.mem_cons, forall_eq_or_imp, false_iff, not_and]
      intro h'; omega
    · simp only [if_neg h, Option.map_eq_none_iff, nx_none, List.mem_cons, forall_eq_or_imp]
      exact ⟨fun hh => ⟨by omega, hh⟩, fun hh => hh.2⟩
theorem nx_some {k : Nat} : ∀ {l : List SN} {y : SN} {d : Nat}, nx k l = some (y, d) → ∃ M P, l = M ++ y :: P ∧ (∀ z ∈ M, z.h ≤ k) ∧ k < y.h ∧ d = M.length + 1
  | [], _, _, h => by simp [nx] at h
  | z :: zs, y, d, h => by
    unfold nx at h
    by_cases hz : k < z.h
    · rw [if_pos hz] at h
      simp only [Option.some.injEq, Prod.mk.injEq] at h
      obtain ⟨rfl, rfl⟩ := h
      exact ⟨[], zs, rfl, by simp, hz, rfl⟩
    · rw [if_neg hz] at h
      obtain ⟨⟨y', d'⟩, h1, h2⟩ := Option.map_eq_some_iff.1 h
      simp only [Prod.mk.injEq] at h2
      obtain ⟨rfl, rfl⟩ := h2
      obtain ⟨M, P, rfl, a, b, c⟩ := nx_some h1
      exact ⟨z :: M, P, rfl, by intro q hq; rcases List.mem_cons.1 hq with rfl | hq; omega; exact a q hq, b, by simp; omega⟩
theorem nx_skip {k : Nat} : ∀ {M : List SN} (P : List SN), (∀ z ∈ M, z.h ≤ k) → nx k (M ++ P) = (nx k P).map fun p => (p.1, p.2 + M.length)
  | [], P, _ => by simp
  | z :: M, P, h => by
    rw [List.cons_append, nx, if_neg (by have := h z (by simp); omega), nx_skip P (fun y hy => h y (by simp [hy]))]
    cases nx k P with
    | none => rfl
    | some p => simp; omega
theorem nx_here {k : Nat} {y : SN} (P : List SN) (h : k < y.h) : nx k (y :: P) = some (y, 1) := by rw [nx, if_pos h]
end Go.Sl
/-! ### SkT -/
namespace Go.Sl
open Go.RowKit
set_option linter.unusedVariables false
set_option linter.unusedSimpArgs false

theorem Sat.setCells {w0 : World} {b : Nat} {t : TypeId} {R : HP} : ∀ (vs : List Value) (o : Nat) {w : World} {c : List Value}, o + vs.length ≤ c.length → Sat w0 w (pts b (.cells c.toArray t (0, 0)) * R) →
    Sat w0 (w.setCells b o vs) (pts b (.cells (c.take o ++ vs ++ c.drop (o + vs.length)).toArray t (0, 0)) * R)
  | [], o, w, c, _, S => by simpa [World.setCells] using S
  | v :: vs, o, w, c, h, S => by
    simp only [List.length_cons] at h
    have S1 := S.setCell (i := o) v
    rw [List.setIfInBounds_toArray] at S1
    have S2 := Sat.setCells vs (o + 1) (by rw [List.length_set]; omega) S1
    refine S2.cong ?_
    congr 3
    have e1 : (c.set o v).take (o + 1) = c.take o ++ [v] := by
      rw [List.take_succ_eq_append_getElem (by rw [List.length_set]; omega), List.getElem_set_self, List.take_set_of_le (Nat.le_refl o)]
    have e2 : (c.set o v).drop (o + 1 + vs.length) = c.drop (o + (vs.length + 1)) := by
      rw [List.drop_set_of_lt (by omega)]
      congr 1
      omega
    rw [e1, e2, List.length_cons]
    simp
/-- A trail's cells. -/
def trC (f g : Nat → Value) : List Value := (List.range 32).map fun j => if j < 16 then f j else g (j - 16)
theorem trC_length (f g : Nat → Value) : (trC f g).length = 32 := by simp [trC]
theorem trC_at {f g : Nat → Value} {k : Nat} (h : k < 16) : (trC f g)[k]? = some (f k) := by
  unfold trC
  rw [List.getElem?_map, List.getElem?_range (by omega)]
  simp [h]
theorem trC_rank {f g : Nat → Value} {k : Nat} (h : k < 16) : (trC f g)[16 + k]? = some (g k) := by
  unfold trC
  rw [List.getElem?_map, List.getElem?_range (by omega)]
  simp [show ¬ 16 + k < 16 by omega]
theorem trC_set_at {f g : Nat → Value} {k : Nat} (h : k < 16) (u : Value) : (trC f g).set k u = trC (fun j => if j = k then u else f j) g := by
  apply List.ext_getElem?
  intro i
  rw [List.getElem?_set]
  by_cases e : k = i
  · subst e; rw [if_pos rfl, trC_length, if_pos (by omega), trC_at h]; simp
  · rw [if_neg e]
    by_cases hi : i < 32
    · unfold trC
      rw [List.getElem?_map, List.getElem?_map, List.getElem?_range hi]
      by_cases h2 : i < 16
      · simp [h2, show ¬ i = k by omega]
      · simp [h2]
    · rw [List.getElem?_eq_none (by rw [trC_length]; omega), List.getElem?_eq_none (by rw [trC_length]; omega)]
theorem trC_set_rank {f g : Nat → Value} {k : Nat} (h : k < 16) (u : Value) : (trC f g).set (16 + k) u = trC f (fun j => if j = k then u else g j) := by
  apply List.ext_getElem?
  intro i
  rw [List.getElem?_set]
  by_cases e : 16 + k = i
  · subst e; rw [if_pos rfl, trC_length, if_pos (by omega), trC_rank h]; simp
  · rw [if_neg e]
    by_cases hi : i < 32
    · unfold trC
      rw [List.getElem?_map, List.getElem?_map, List.getElem?_range hi]
      by_cases h2 : i < 16
      · simp [h2]
      · simp [h2, show ¬ i - 16 = k by omega]
    · rw [List.getElem?_eq_none (by rw [trC_length]; omega), List.getElem?_eq_none (by rw [trC_length]; omega)]
theorem trC_congr {f g f' g' : Nat → Value} (h1 : ∀ k < 16, f k = f' k) (h2 : ∀ k < 16, g k = g' k) : trC f g = trC f' g' := by
  unfold trC
  refine List.map_congr_left fun j hj => ?_
  rw [List.mem_range] at hj
  by_cases h : j < 16
  · rw [if_pos h, if_pos h, h1 j h]
  · rw [if_neg h, if_neg h, h2 _ (by omega)]

theorem Sat.tr_store {w0 w : World} {b k : Nat} {t : TypeId} {f g : Nat → Value} {R : HP} (h : k < 16) (u v : Value) (S : Sat w0 w (pts b (.cells (trC f g).toArray t (0, 0)) * R)) :
    w.cell? ⟨b, k, none⟩ = some (f k) ∧ (∀ i, w.frozen? ⟨b, i, none⟩ = false) ∧ (w.setCell ⟨b, k, none⟩ u).cell? ⟨b, 16 + k, none⟩ = some (g k) ∧ (∀ i, (w.setCell ⟨b, k, none⟩ u).frozen? ⟨b, i, none⟩ = false) ∧
    Sat w0 ((w.setCell ⟨b, k, none⟩ u).setCell ⟨b, 16 + k, none⟩ v) (pts b (.cells (trC (fun j => if j = k then u else f j) (fun j => if j = k then v else g j)).toArray t (0, 0)) * R) := by
  have S1 := S.setCell (i := k) u
  rw [List.setIfInBounds_toArray, trC_set_at h] at S1
  have S2 := S1.setCell (i := 16 + k) v
  rw [List.setIfInBounds_toArray, trC_set_rank h] at S2
  exact ⟨cell_of S.blk k (by simpa using trC_at h), frz_of S.blk, cell_of S1.blk _ (by simpa using trC_rank h), frz_of S1.blk, S2⟩
/-- The last one of a level among those that are ahead (the head among them), and its rank. -/
def TrAt (hd : SN) (A : List SN) (k : Nat) (x : SN) (r : Nat) : Prop := ∃ pre M, hd :: A = pre ++ x :: M ∧ pre.length = r ∧ k < x.h ∧ ∀ z ∈ M, z.h ≤ k
/-- A trail as a value. -/
abbrev trV (tr : Nat → SN × Nat) : List Value := trC (fun k => pt (tr k).1.b) (fun k => .int .i64 (tr k).2)
theorem nx_parts {k : Nat} : ∀ {M B : List SN} {y : SN} {d : Nat}, nx k (M ++ B) = some (y, d) →
    (∃ M1 M2, M = M1 ++ y :: M2 ∧ d = M1.length + 1 ∧ k < y.h) ∨ ((∀ z ∈ M, z.h ≤ k) ∧ y ∈ B)
  | [], B, y, d, h => by
    obtain ⟨M, P, e, _⟩ := nx_some h
    refine .inr ⟨by simp, ?_⟩
    have : B = M ++ y :: P := e
    rw [this]; simp
  | z :: M, B, y, d, h => by
    rw [List.cons_append, nx] at h
    by_cases hz : k < z.h
    · rw [if_pos hz] at h
      simp only [Option.some.injEq, Prod.mk.injEq] at h
      obtain ⟨rfl, rfl⟩ := h
      exact .inl ⟨[], M, rfl, rfl, hz⟩
    · rw [if_neg hz] at h
      obtain ⟨⟨y', d'⟩, h1, h2⟩ := Option.map_eq_some_iff.1 h
      simp only [Prod.mk.injEq] at h2
      obtain ⟨rfl, rfl⟩ := h2
      rcases nx_parts h1 with ⟨M1, M2, rfl, a, b⟩ | ⟨a, b⟩
      · exact .inl ⟨z :: M1, M2, rfl, by simp; omega, b⟩
      · exact .inr ⟨by intro q hq; rcases List.mem_cons.1 hq with rfl | hq; omega; exact a q hq, b⟩
end Go.Sl
/-! ### SkP -/
namespace Go.Sl
open Go.RowKit
set_option linter.unusedVariables false
set_option linter.unusedSimpArgs false

/-- The links of the nodes P are right, rest being behind them. -/
def GoodSeg (k : Nat) (L : Lk) : List SN → List SN → Prop
  | [], _ => True
  | z :: zs, rest => (k < z.h → LinkOk k (zs ++ rest) (L z.b k)) ∧ GoodSeg k L zs rest
theorem goodSeg_append {k : Nat} {L : Lk} : ∀ {P Q rest : List SN}, GoodSeg k L (P ++ Q) rest ↔ GoodSeg k L P (Q ++ rest) ∧ GoodSeg k L Q rest
  | [], Q, rest => by simp [GoodSeg]
  | z :: P, Q, rest => by
    simp only [List.cons_append, GoodSeg, goodSeg_append (P := P), List.append_assoc, and_assoc]
theorem goodSeg_spec {k : Nat} {L : Lk} {ns : List SN} : GoodSeg k L ns [] ↔ GoodAt k ns L := by
  constructor
  · intro h pre x post e hx
    rw [e, goodSeg_append] at h
    have := h.2.1 hx
    simpa using this
  · intro h
    suffices ∀ (P Q : List SN), ns = P ++ Q → GoodSeg k L Q [] from this [] ns rfl
    intro P Q
    induction Q generalizing P with
    | nil => intro _; trivial
    | cons z Q ih =>
      intro e
      refine ⟨fun hz => ?_, ih (P ++ [z]) (by rw [e]; simp)⟩
      rw [List.append_nil]
      exact h P z Q e hz
theorem nx_upto {k : Nat} {x : SN} (hx : k < x.h) : ∀ (P Q Q' : List SN), nx k (P ++ x :: Q) = nx k (P ++ x :: Q')
  | [], Q, Q' => by rw [List.nil_append, List.nil_append, nx_here _ hx, nx_here _ hx]
  | z :: P, Q, Q' => by rw [List.cons_append, List.cons_append, nx, nx, nx_upto hx P Q Q']
theorem goodSeg_upto {k : Nat} {x : SN} {L L' : Lk} (hx : k < x.h) : ∀ {P Q Q' : List SN}, (∀ z ∈ P, L' z.b k = L z.b k) → GoodSeg k L P (x :: Q) → GoodSeg k L' P (x :: Q')
  | [], _, _, _, _ => trivial
  | z :: P, Q, Q', ha, h => by
    refine ⟨fun hz => ?_, goodSeg_upto hx (fun y hy => ha y (by simp [hy])) h.2⟩
    have h1 := h.1 hz
    rw [ha z (by simp)]
    unfold LinkOk at h1 ⊢
    rw [nx_upto hx P Q' Q]
    exact h1
theorem goodSeg_low {k : Nat} {L : Lk} : ∀ {P rest : List SN}, (∀ z ∈ P, z.h ≤ k) → GoodSeg k L P rest
  | [], _, _ => trivial
  | z :: P, rest, h => ⟨fun hz => by have := h z (by simp); omega, goodSeg_low fun y hy => h y (by simp [hy])⟩
theorem goodSeg_same {k : Nat} {L L' : Lk} : ∀ {P rest : List SN}, (∀ z ∈ P, L' z.b k = L z.b k) → GoodSeg k L P rest → GoodSeg k L' P rest
  | [], _, _, _ => trivial
  | z :: P, rest, ha, h => ⟨fun hz => by rw [ha z (by simp)]; exact h.1 hz, goodSeg_same (fun y hy => ha y (by simp [hy])) h.2⟩
section
variable {k : Nat} {L L' : Lk} {pre M B : List SN} {x new : SN}
/-- A link that leads over the new one is one longer. -/
def bump (d : Int) (p : Value × Value) : Value × Value := match p.1, p.2 with
  | .pointer none, v => (.pointer none, v)
  | u, .int kk n => (u, .int kk (n + d))
  | u, v => (u, v)
theorem good_put_over (hx : k < x.h) (hM : ∀ z ∈ M, z.h ≤ k) (hn : new.h ≤ k) (hg : GoodAt k (pre ++ x :: (M ++ B)) L) (ha : ∀ z ∈ pre ++ B, L' z.b k = L z.b k) (hl : L' x.b k = bump 1 (L x.b k)) :
    GoodAt k (pre ++ x :: (M ++ new :: B)) L' := by
  rw [← goodSeg_spec, goodSeg_append] at hg ⊢
  obtain ⟨h1, h2, h3⟩ := hg
  rw [goodSeg_append] at h3
  rw [List.append_nil] at h1 h2
  refine ⟨by rw [List.append_nil]; exact goodSeg_upto hx (fun z hz => ha z (by simp [hz])) h1, fun _ => ?_, ?_⟩
  · have := h2 hx
    rw [List.append_nil, hl]
    unfold LinkOk at this ⊢
    rw [nx_skip _ hM] at this ⊢
    rw [nx, if_neg (by omega : ¬ k < new.h)]
    cases hb : nx k B with
    | none =>
      rw [hb] at this
      simp only [Option.map_none] at this ⊢
      obtain ⟨e1, n, e2⟩ := this
      unfold bump
      rw [e1, e2]
      exact ⟨rfl, n, rfl⟩
    | some p =>
      obtain ⟨y, d⟩ := p
      rw [hb] at this
      simp only [Option.map_some] at this ⊢
      unfold bump
      rw [this.1, this.2]
      refine ⟨rfl, ?_⟩
      show Value.int .i64 _ = _
      congr 1
      omega
  · rw [goodSeg_append]
    refine ⟨goodSeg_low hM, fun h => by omega, goodSeg_same (fun z hz => ha z (by simp [hz])) h3.2⟩
theorem good_put_in (hx : k < x.h) (hM : ∀ z ∈ M, z.h ≤ k) (hn : k < new.h) (hg : GoodAt k (pre ++ x :: (M ++ B)) L) (ha : ∀ z ∈ pre ++ B, L' z.b k = L z.b k)
    (hl : L' x.b k = (pt new.b, .int .i64 ((M.length : Int) + 1))) (hl3 : ∀ n, (L x.b k).2 = .int .i64 n → L' new.b k = ((L x.b k).1, .int .i64 (n - M.length)) ∨ ((L x.b k).1 = .pointer none ∧ ∃ n', L' new.b k = (.pointer none, .int .i64 n'))) :
    GoodAt k (pre ++ x :: (M ++ new :: B)) L' := by
  rw [← goodSeg_spec, goodSeg_append] at hg ⊢
  obtain ⟨h1, h2, h3⟩ := hg
  rw [goodSeg_append] at h3
  rw [List.append_nil] at h1 h2
  refine ⟨by rw [List.append_nil]; exact goodSeg_upto hx (fun z hz => ha z (by simp [hz])) h1, fun _ => ?_, ?_⟩
  · rw [List.append_nil, hl]
    unfold LinkOk
    rw [nx_skip _ hM, nx_here _ hn]
    refine ⟨rfl, ?_⟩
    show Value.int .i64 _ = _
    congr 1
    omega
  · rw [goodSeg_append]
    refine ⟨goodSeg_low hM, fun _ => ?_, goodSeg_same (fun z hz => ha z (by simp [hz])) h3.2⟩
    have := h2 hx
    rw [List.append_nil]
    unfold LinkOk at this ⊢
    rw [nx_skip _ hM] at this
    cases hb : nx k B with
    | none =>
      rw [hb] at this
      simp only [Option.map_none] at this ⊢
      obtain ⟨e1, n, e2⟩ := this
      rcases hl3 n e2 with h | ⟨h, n', h'⟩
      · rw [h]; exact ⟨e1, _, rfl⟩
      · rw [h']; exact ⟨rfl, _, rfl⟩
    | some p =>
      obtain ⟨y, d⟩ := p
      rw [hb] at this
      simp only [Option.map_some] at this ⊢
      rcases hl3 _ this.2 with h | ⟨h, _⟩
      · rw [h]
        refine ⟨this.1, ?_⟩
        show Value.int .i64 _ = _
        congr 1
        omega
      · rw [this.1] at h; cases h
theorem good_drop_over {goes : SN} (hx : k < x.h) (hM : ∀ z ∈ M, z.h ≤ k) (hn : goes.h ≤ k) (hg : GoodAt k (pre ++ x :: (M ++ goes :: B)) L) (ha : ∀ z ∈ pre ++ B, L' z.b k = L z.b k) (hl : L' x.b k = bump (-1) (L x.b k)) :
    GoodAt k (pre ++ x :: (M ++ B)) L' := by
  rw [← goodSeg_spec, goodSeg_append] at hg ⊢
  obtain ⟨h1, h2, h3⟩ := hg
  rw [goodSeg_append] at h3
  rw [List.append_nil] at h1 h2
  refine ⟨by rw [List.append_nil]; exact goodSeg_upto hx (fun z hz => ha z (by simp [hz])) h1, fun _ => ?_, ?_⟩
  · have := h2 hx
    rw [List.append_nil, hl]
    unfold LinkOk at this ⊢
    rw [nx_skip _ hM] at this ⊢
    rw [nx, if_neg (by omega : ¬ k < goes.h)] at this
    cases hb : nx k B with
    | none =>
      rw [hb] at this
      simp only [Option.map_none] at this ⊢
      obtain ⟨e1, n, e2⟩ := this
      unfold bump
      rw [e1, e2]
      exact ⟨rfl, n, rfl⟩
    | some p =>
      obtain ⟨y, d⟩ := p
      rw [hb] at this
      simp only [Option.map_some] at this ⊢
      unfold bump
      rw [this.1, this.2]
      refine ⟨rfl, ?_⟩
      show Value.int .i64 _ = _
      congr 1
      omega
  · rw [goodSeg_append]
    exact ⟨goodSeg_low hM, goodSeg_same (fun z hz => ha z (by simp [hz])) h3.2.2⟩
theorem good_drop_in {goes : SN} (hx : k < x.h) (hM : ∀ z ∈ M, z.h ≤ k) (hn : k < goes.h) (hg : GoodAt k (pre ++ x :: (M ++ goes :: B)) L) (ha : ∀ z ∈ pre ++ B, L' z.b k = L z.b k)
    (hl : ∀ n, (L goes.b k).2 = .int .i64 n → L' x.b k = ((L goes.b k).1, .int .i64 ((M.length : Int) + n)) ∨ ((L goes.b k).1 = .pointer none ∧ ∃ n', L' x.b k = (.pointer none, .int .i64 n'))) :
    GoodAt k (pre ++ x :: (M ++ B)) L' := by
  rw [← goodSeg_spec, goodSeg_append] at hg ⊢
  obtain ⟨h1, h2, h3⟩ := hg
  rw [goodSeg_append] at h3
  rw [List.append_nil] at h1 h2
  refine ⟨by rw [List.append_nil]; exact goodSeg_upto hx (fun z hz => ha z (by simp [hz])) h1, fun _ => ?_, ?_⟩
  · have := h3.2.1 hn
    rw [List.append_nil] at this ⊢
    unfold LinkOk at this ⊢
    rw [nx_skip _ hM]
    cases hb : nx k B with
    | none =>
      rw [hb] at this
      simp only [Option.map_none] at this ⊢
      obtain ⟨e1, n, e2⟩ := this
      rcases hl n e2 with h | ⟨h, n', h'⟩
      · rw [h]; exact ⟨e1, _, rfl⟩
      · rw [h']; exact ⟨rfl, _, rfl⟩
    | some p =>
      obtain ⟨y, d⟩ := p
      rw [hb] at this
      simp only [Option.map_some] at this ⊢
      rcases hl _ this.2 with h | ⟨h, _⟩
      · rw [h]
        refine ⟨this.1, ?_⟩
        show Value.int .i64 _ = _
        congr 1
        omega
      · rw [this.1] at h; cases h
  · rw [goodSeg_append]
    exact ⟨goodSeg_low hM, goodSeg_same (fun z hz => ha z (by simp [hz])) h3.2.2⟩
/-- The link that leads to the one that goes. -/
theorem drop_link {goes : SN} (hx : k < x.h) (hM : ∀ z ∈ M, z.h ≤ k) (hn : k < goes.h) (hg : GoodAt k (pre ++ x :: (M ++ goes :: B)) L) : L x.b k = (pt goes.b, .int .i64 ((M.length : Int) + 1)) := by
  have := hg pre x _ rfl hx
  unfold LinkOk at this
  rw [nx_skip _ hM, nx_here _ hn] at this
  simp only [Option.map_some] at this
  refine Prod.ext this.1 ?_
  rw [this.2]
  show Value.int .i64 _ = Value.int .i64 _
  congr 1
  omega
/-- A link of a level is a pointer and a number. -/
theorem good_form {post : List SN} (hx : k < x.h) (hg : GoodAt k (pre ++ x :: post) L) : (∃ n, L x.b k = (.pointer none, .int .i64 n) ∧ nx k post = none) ∨ ∃ y d, L x.b k = (pt y.b, .int .i64 (d : Nat)) ∧ nx k post = some (y, d) := by
  have := hg pre x post rfl hx
  unfold LinkOk at this
  cases h : nx k post with
  | none =>
    rw [h] at this
    obtain ⟨e1, n, e2⟩ := this
    exact .inl ⟨n, Prod.ext e1 e2, rfl⟩
  | some p =>
    obtain ⟨y, d⟩ := p
    rw [h] at this
    exact .inr ⟨y, d, Prod.ext this.1 this.2, rfl⟩
end
theorem upd2_eq (L : Lk) (b k : Nat) (u v : Value) : upBy1 (upTo1 L b k u) b k v = fun b' k' => if b' = b ∧ k' = k then (u, v) else L b' k' := by
  funext b' k'
  unfold upBy1 upTo1
  by_cases h : b' = b
  · by_cases h2 : k' = k
    · simp [h, h2]
    · simp [h, h2]
  · simp [h]
theorem updBy_eq (L : Lk) (b k : Nat) (v : Value) : upBy1 L b k v = fun b' k' => if b' = b ∧ k' = k then ((L b' k').1, v) else L b' k' := by
  funext b' k'
  unfold upBy1
  by_cases h : b' = b
  · by_cases h2 : k' = k
    · simp [h, h2]
    · simp [h, h2]
  · simp [h]
theorem goodAt_same {k : Nat} {ns : List SN} {L L' : Lk} (h : ∀ z ∈ ns, L' z.b k = L z.b k) (hg : GoodAt k ns L) : GoodAt k ns L' :=
  goodSeg_spec.1 (goodSeg_same h (goodSeg_spec.2 hg))
theorem nodup_mid {pre post : List SN} {x : SN} (hn : ((pre ++ x :: post).map (·.b)).Nodup) : ∀ y ∈ pre ++ post, y.b ≠ x.b := by
  rw [List.map_append, List.map_cons] at hn
  have h1 := List.nodup_append.1 hn
  have h2 := (List.nodup_cons.1 h1.2.1).1
  intro y hy e
  rcases List.mem_append.1 hy with h | h
  · exact h1.2.2 y.b (List.mem_map.2 ⟨y, h, rfl⟩) x.b (by simp) e
  · exact h2 (List.mem_map.2 ⟨y, h, e⟩)
theorem nx_le {k d : Nat} {l : List SN} {y : SN} (h : nx k l = some (y, d)) : d ≤ l.length ∧ 1 ≤ d := by
  obtain ⟨M, P, rfl, _, _, rfl⟩ := nx_some h
  rw [List.length_append, List.length_cons]
  exact ⟨by omega, by omega⟩
end Go.Sl
/-! ### SkD -/
namespace Go.Sl
open Go.RowKit Go.Proofs Go.Sl Go.Proofs.YteakblblpiihpaaW.PrintWords Go.Proofs.Yteakblblpiihpaa.PZs
set_option linter.unusedVariables false
set_option linter.unusedSimpArgs false
set_option maxRecDepth 100000

abbrev sN : Nat := 136
abbrev sL : Nat := 133
/-- A list's links are right. -/
structure SkOk (hd : SN) (xs : List SN) (L : Lk) : Prop where
  hh : hd.h = 16
  nd : ((hd :: xs).map (·.b)).Nodup
  good : ∀ k < 16, GoodAt k (hd :: xs) L
  hts : ∀ x ∈ xs, 1 ≤ x.h ∧ x.h ≤ 16
  big : xs.length ≤ 1000000000000
def skl (o : Nat) (seed : Int) (hd : SN) (xs : List SN) (L : Lk) (n : Nat) : HP := pts o (.cells #[.int .u64 seed, pt hd.b, .int .i64 n] 139 (0, 0)) * sks sN sL L (hd :: xs)
theorem skl_cells {w0 w : World} {o n : Nat} {seed : Int} {hd : SN} {xs : List SN} {L : Lk} {R : HP} (S : Sat w0 w (skl o seed hd xs L n * R)) :
    w.cell? ⟨o, 0, none⟩ = some (.int .u64 seed) ∧ w.cell? ⟨o, 1, none⟩ = some (pt hd.b) ∧ w.cell? ⟨o, 2, none⟩ = some (.int .i64 n) := by
  unfold skl at S
  rw [sep_assoc] at S
  obtain ⟨a, b, c, _⟩ := blk3 S.blk
  exact ⟨a, b, c⟩
theorem skl_sks {w0 w : World} {o n : Nat} {seed : Int} {hd : SN} {xs : List SN} {L : Lk} {R : HP} (S : Sat w0 w (skl o seed hd xs L n * R)) :
    Sat w0 w (sks sN sL L (hd :: xs) * (pts o (.cells #[.int .u64 seed, pt hd.b, .int .i64 n] 139 (0, 0)) * R)) := S.cong (by unfold skl; ac_rfl)
theorem trZ : (trC (fun _ => Value.pointer none) (fun _ => Value.int .i64 0)).toArray = #[Value.pointer none, Value.pointer none, Value.pointer none, Value.pointer none, Value.pointer none, Value.pointer none, Value.pointer none, Value.pointer none, Value.pointer none, Value.pointer none, Value.pointer none, Value.pointer none, Value.pointer none, Value.pointer none, Value.pointer none, Value.pointer none, Value.int .i64 0, Value.int .i64 0, Value.int .i64 0, Value.int .i64 0, Value.int .i64 0, Value.int .i64 0, Value.int .i64 0, Value.int .i64 0, Value.int .i64 0, Value.int .i64 0, Value.int .i64 0, Value.int .i64 0, Value.int .i64 0, Value.int .i64 0, Value.int .i64 0, Value.int .i64 0] := by rfl
/-- A list's node, and a link of it. -/
theorem skl_at {w0 w : World} {o n k : Nat} {seed : Int} {hd x : SN} {xs pre post : List SN} {L : Lk} {R : HP} (hok : SkOk hd xs L) (e : hd :: xs = pre ++ x :: post) (hk : k < x.h) (S : Sat w0 w (skl o seed hd xs L n * R)) :
    w.cell? ⟨x.b, 0, none⟩ = some (.string x.m) ∧ w.cell? ⟨x.b, 1, none⟩ = some (.int .i64 x.s) ∧ w.cell? ⟨x.b, 2, none⟩ = some (.slice (some ⟨x.g, 0, none⟩) x.h x.h) ∧
    w.cell? ⟨x.g, k * 2, none⟩ = some (L x.b k).1 ∧ w.cell? ⟨x.g, k * 2 + 1, none⟩ = some (L x.b k).2 := by
  have S1 := skl_sks S
  rw [e] at S1
  obtain ⟨a, b, c⟩ := S1.sks_at.snode_cells
  obtain ⟨d, f, _⟩ := S1.sks_link hk (by rw [← e]; exact hok.nd)
  exact ⟨a, b, c, d, f⟩
theorem skl_node {w0 w : World} {o n : Nat} {seed : Int} {hd y : SN} {xs : List SN} {L : Lk} {R : HP} (hy : y ∈ hd :: xs) (S : Sat w0 w (skl o seed hd xs L n * R)) :
    w.cell? ⟨y.b, 0, none⟩ = some (.string y.m) ∧ w.cell? ⟨y.b, 1, none⟩ = some (.int .i64 y.s) ∧ w.cell? ⟨y.b, 2, none⟩ = some (.slice (some ⟨y.g, 0, none⟩) y.h y.h) := by
  obtain ⟨pre, post, e⟩ := List.append_of_mem hy
  have S1 := skl_sks S
  rw [e] at S1
  exact S1.sks_at.snode_cells
theorem sk_top {hd : SN} {xs : List SN} {L : Lk} (hok : SkOk hd xs L) {x : SN} (hx : x ∈ hd :: xs) : x.h ≤ 16 := by
  rcases List.mem_cons.1 hx with rfl | hx
  · rw [hok.hh]; exact Nat.le_refl _
  · exact (hok.hts x hx).2
theorem trsize (f g : Nat → Value) : (Try.prog.info? 130).map (·.size) = some (trC f g).toArray.size := by
  rw [List.size_toArray, trC_length]
  kernel_rfl
theorem trC_one {f g : Nat → Value} (hf : ∀ k < 16, (f k).oneCell' = true) (hg : ∀ k < 16, (g k).oneCell' = true) : (trC f g).toArray.all (·.oneCell') = true := by
  refine all_oneCell_toArray fun v hv => ?_
  unfold trC at hv
  obtain ⟨j, hj, rfl⟩ := List.mem_map.1 hv
  rw [List.mem_range] at hj
  by_cases h : j < 16
  · rw [if_pos h]; exact hf j h
  · rw [if_neg h]; exact hg _ (by omega)
set_option maxHeartbeats 8000000 in
/-- 'down', by the closure (*mews/skip.List).to$1. -/
theorem downTo {w0 w : World} {o : Nat} {seed : Int} {n : Nat} {hd : SN} {A B : List SN} {L : Lk} {C R : HP} {cap : Value} (hok : SkOk hd (A ++ B) L)
    (hA : ∀ y ∈ A, ∀ W Y, Sat w0 W (C * Y) → Calls Try.prog 86 #[.agg #[.string y.m, .int .i64 y.s], cap] W fun en W' => en = .returned (.bool true) ∧ Sat w0 W' (C * Y))
    (hB : ∀ y ∈ B, ∀ W Y, Sat w0 W (C * Y) → Calls Try.prog 86 #[.agg #[.string y.m, .int .i64 y.s], cap] W fun en W' => en = .returned (.bool false) ∧ Sat w0 W' (C * Y))
    (S : Sat w0 w (C * (skl o seed hd (A ++ B) L n * R))) :
    Calls Try.prog 85 #[pt o, .func (.func 86) #[] #[cap]] w fun en w' => ∃ tr : Nat → SN × Nat, (∀ k < 16, TrAt hd A k (tr k).1 (tr k).2) ∧ en = .returned (.agg (trV tr).toArray) ∧ Sat w0 w' (C * (skl o seed hd (A ++ B) L n * R)) := by
  have HS := Lib.hid S
  have HOK := Lib.hid hok
  have HA := Lib.hid hA
  have HB := Lib.hid hB
  obtain ⟨rb, hrb⟩ : ∃ rb, rb = w.heap.size := ⟨_, rfl⟩
  have S0 := (S.alloc (.cells (trC (fun _ => .pointer none) (fun _ => .int .i64 0)).toArray 130)).alloc (.cells (trC (fun _ => .pointer none) (fun _ => .int .i64 0)).toArray 130)
  rw [World.size_alloc, ← hrb] at S0
  have HS0 := Lib.hid S0
  have HRB := Lib.hid hrb
  clear S hok hA hB HS S0 hrb
  go_enter Try.func85, Try.ntmps85
  go_upto_region 2 with (fail)
  rw [← HRB.out, ← trZ]
  refine gen_w HS0.out ?_
  clear HS0 HRB
  intro w1 S1
  obtain ⟨c0, c1, c2⟩ := skl_cells S1.p4
  have HS1 := Lib.hid S1
  clear S1
  go_wp2_with fail
  clear c0 c1 c2
  go_loopg [6, 7, 14] 17 (fun kq v6 v7 v14 wr => ∃ (i : Nat) (x : SN) (pre M : List SN) (f g : Nat → Value), v14 = .int .i64 i ∧ v6 = pt x.b ∧ v7 = .int .i64 pre.length ∧ Hid (i ≤ 16 ∧ kq = 17 - i) ∧ Hid (hd :: A = pre ++ x :: M) ∧ Hid (16 ≤ x.h + i) ∧
    Hid (∀ j < 16, 16 ≤ j + i → ∃ y r, f j = pt y.b ∧ g j = .int .i64 (r : Nat) ∧ TrAt hd A j y r) ∧
    Hid (Sat w0 wr (pts (rb + 1) (.cells (trC f g).toArray 130 (0, 0)) * (pts rb (.cells (trC (fun _ => .pointer none) (fun _ => .int .i64 0)).toArray 130 (0, 0)) * (C * (skl o seed hd (A ++ B) L n * R))))))
  case atStart => exact ⟨0, hd, [], A, _, _, rfl, rfl, rfl, Lib.hid ⟨by omega, rfl⟩, Lib.hid rfl, Lib.hid (by rw [HOK.out.hh]; omega), Lib.hid (fun j hj h => by omega), HS1⟩
  case round =>
    clear HS1
    obtain ⟨i, x, pre, M, f, g, rfl, rfl, rfl, HI, HX, HH, HT, HSr⟩ := hrel
    have hi := HI.out.1
    by_cases hlt : i < 16
    · obtain ⟨k, hk⟩ : ∃ k, k = 15 - i := ⟨_, rfl⟩
      have HW := Lib.hid (show (15 : Int) - (i : Int) = (k : Int) by omega)
      have hk16 : k < 16 := by omega
      have HK := Lib.hid hk
      have hkx : k < x.h := by have := HH.out; omega
      have HKX := Lib.hid hkx
      clear hk hkx
      go_upto_region 7 with (fail)
      rw [HW.out, show decide ((i : Int) < 16) = true from by simp; omega]
      clear HW
      go_loopg [6, 7] M.length (fun kq v6 v7 wr => ∃ (x : SN) (pre M : List SN), v6 = pt x.b ∧ v7 = .int .i64 pre.length ∧ Hid (hd :: A = pre ++ x :: M) ∧ Hid (k < x.h) ∧ Hid (kq = M.length) ∧
        Hid (Sat w0 wr (pts (rb + 1) (.cells (trC f g).toArray 130 (0, 0)) * (pts rb (.cells (trC (fun _ => .pointer none) (fun _ => .int .i64 0)).toArray 130 (0, 0)) * (C * (skl o seed hd (A ++ B) L n * R))))))
      case atStart => exact ⟨x, pre, M, rfl, rfl, HX, HKX, Lib.hid rfl, HSr⟩
      case round =>
        clear HSr HX HKX HH x pre M
        obtain ⟨x, pre, M, rfl, rfl, HX, HKX, HQ, HSi⟩ := hrel
        have hcut : hd :: (A ++ B) = pre ++ x :: (M ++ B) := by
          have := HX.out
          rw [← List.cons_append, this]; simp
        have hxm : x ∈ hd :: (A ++ B) := by rw [hcut]; simp
        obtain ⟨x0, x1, x2, x3, x4⟩ := skl_at HOK.out hcut HKX.out HSi.out.p4
        have hlk := HOK.out.good k hk16 _ _ _ hcut HKX.out
        have hx16 := sk_top HOK.out hxm
        have hkl : (k : Int) < (x.h : Int) := by have := HKX.out; omega
        have hk0 : (0 : Int) ≤ (k : Int) := by omega
        have HCUT := Lib.hid hcut
        clear hcut hxm
        unfold LinkOk at hlk
        cases hnx : nx k (M ++ B) with
        | none =>
          rw [hnx] at hlk
          simp only at hlk
          rw [hlk.1] at x3
          have HALL : Hid (∀ z ∈ M, z.h ≤ k) := Lib.hid (fun z hz => nx_none.1 hnx z (by simp [hz]))
          clear hlk hnx
          obtain ⟨t0, tf, t1, tf2, ST⟩ := HSi.out.tr_store hk16 (pt x.b) (.int .i64 pre.length)
          have HST := Lib.hid ST
          clear ST
          go_wp2_with fail
          go_roundg (17 - (i + 1))
          case measure => have := HI.out; omega
          case rel =>
            refine ⟨i + 1, x, pre, M, _, _, by go_num, rfl, rfl, Lib.hid ⟨by omega, rfl⟩, HX, Lib.hid (by have := HKX.out; have := HK.out; omega), Lib.hid ?_, HST⟩
            intro j hj hji
            by_cases e : j = k
            · exact ⟨x, pre.length, by simp [e], by simp [e], pre, M, HX.out, rfl, by rw [e]; exact HKX.out, by rw [e]; exact HALL.out⟩
            · obtain ⟨y, r, q1, q2, q3⟩ := HT.out j hj (by have := HK.out; omega)
              exact ⟨y, r, by simp [e, q1], by simp [e, q2], q3⟩
        | some p =>
          obtain ⟨y, d⟩ := p
          rw [hnx] at hlk
          simp only at hlk
          have HLK := Lib.hid hlk
          rw [hlk.1] at x3
          rw [hlk.2] at x4
          clear hlk
          have hym : y ∈ hd :: (A ++ B) := by
            obtain ⟨M1, P, e, -⟩ := nx_some hnx
            rw [HCUT.out, e]; simp
          obtain ⟨y0, y1, -⟩ := skl_node hym HSi.out.p4
          rcases nx_parts hnx with ⟨M1, M2, hM, hd1, hky⟩ | ⟨hall, hyB⟩
          · have hyA : y ∈ A := by
              have e := HX.out
              rw [hM] at e
              cases pre with
              | nil =>
                simp only [List.nil_append, List.cons.injEq] at e
                rw [e.2]; simp
              | cons q qs =>
                simp only [List.cons_append, List.cons.injEq] at e
                rw [e.2]; simp
            have HCUTM := Lib.hid hM
            have HD1 := Lib.hid hd1
            have HKY := Lib.hid hky
            have hbig := HOK.out.big
            have hdl : (pre.length + d : Nat) ≤ 1000000000001 := by
              have e := congrArg List.length HX.out
              simp only [hM, List.length_cons, List.length_append] at e hbig
              omega
            have HY := Lib.hid hyA
            clear hM hd1 hky hyA hnx hym hbig
            go_wp2_with fail
            refine (HA.out y HY.out _ _ HSi.out.p3).mono ?_
            rintro en w3 ⟨rfl, S3⟩
            have S4 := S3.p3.p3
            obtain ⟨x0, x1, x2, x3, x4⟩ := skl_at HOK.out HCUT.out HKX.out S4.p4
            have hlk := HLK.out
            rw [hlk.1] at x3
            rw [hlk.2] at x4
            have HS4 := Lib.hid S4
            clear S3 S4 HSi hlk y0 y1
            go_wp2_with fail
            go_roundg M2.length
            case measure => have := HQ.out; rw [HCUTM.out] at this; simp at this; omega
            case rel =>
              refine ⟨y, pre ++ x :: M1, M2, rfl, ?_, Lib.hid (by rw [HX.out, HCUTM.out]; simp), HKY, Lib.hid rfl, HS4⟩
              rw [HD1.out, List.length_append, List.length_cons]
              go_num
          · have HY := Lib.hid hyB
            have HALL := Lib.hid hall
            clear hyB hall hnx hym
            go_wp2_with fail
            refine (HB.out y HY.out _ _ HSi.out.p3).mono ?_
            rintro en w3 ⟨rfl, S3⟩
            have HSi := Lib.hid S3.p3.p3
            clear S3 x0 x1 x2 x3 x4 y0 y1
            obtain ⟨t0, tf, t1, tf2, ST⟩ := HSi.out.tr_store hk16 (pt x.b) (.int .i64 pre.length)
            have HST := Lib.hid ST
            clear ST
            go_wp2_with fail
            go_roundg (17 - (i + 1))
            case measure => have := HI.out; omega
            case rel =>
              refine ⟨i + 1, x, pre, M, _, _, by go_num, rfl, rfl, Lib.hid ⟨by omega, rfl⟩, HX, Lib.hid (by have := HKX.out; have := HK.out; omega), Lib.hid ?_, HST⟩
              intro j hj hji
              by_cases e : j = k
              · exact ⟨x, pre.length, by simp [e], by simp [e], pre, M, HX.out, rfl, by rw [e]; exact HKX.out, by rw [e]; exact HALL.out⟩
              · obtain ⟨y, r, q1, q2, q3⟩ := HT.out j hj (by have := HK.out; omega)
                exact ⟨y, r, by simp [e, q1], by simp [e, q2], q3⟩
    · have h16 : i = 16 := by omega
      subst h16
      clear hlt hi
      have ht := fun (j : Nat) (hj : j < 16) => HT.out j hj (by omega)
      have hof : ∀ k < 16, (f k).oneCell' = true := fun j hj => by obtain ⟨y, r, q1, q2, _⟩ := ht j hj; rw [q1]; rfl
      have hog : ∀ k < 16, (g k).oneCell' = true := fun j hj => by obtain ⟨y, r, q1, q2, _⟩ := ht j hj; rw [q2]; rfl
      have HONE := Lib.hid (trC_one hof hog)
      have HLD := Lib.hid HSr.out.blk
      have S2 := HSr.out.p2
      have hth : wr.there rb 0 (trC f g).toArray.size := by
        intro j hj
        rw [List.size_toArray, trC_length] at hj
        have hz : (trC (fun _ => Value.pointer none) (fun _ => Value.int .i64 0))[j]?.isSome = true := by rw [List.getElem?_eq_getElem (by rw [trC_length]; exact hj)]; rfl
        obtain ⟨v, hv⟩ := Option.isSome_iff_exists.1 hz
        rw [Nat.zero_add]
        exact ⟨by rw [cell_of S2.blk j (by simpa using hv)]; rfl, frz_of S2.blk j⟩
      have HTH := Lib.hid hth
      have S3 := Sat.setCells (trC f g) 0 (by rw [trC_length, trC_length]; omega) S2
      rw [List.take_zero, List.nil_append, List.drop_of_length_le (by rw [trC_length, trC_length]; omega), List.append_nil] at S3
      have HS3 := Lib.hid S3
      have HT2 := Lib.hid ht
      clear hof hog S2 S3 hth ht HSr HT
      go_wp2_with (first
        | (with_reducible refine wpList_load_row rfl 130 (.tmp 5) rfl (rb + 1) rfl 130 (trC f g).toArray (0, 0) _ HLD.out Try.underlying130 rfl (trsize f g) ?_)
        | (with_reducible refine wpList_store_mid rfl 130 (.tmp 4) (.tmp 70) rfl rb 0 (trC f g).toArray rfl rfl HTH.out (trsize f g) HONE.out ?_))
      refine bodyPost_ret (results_cell_row rfl _ _ rb 130 _ (0, 0) _ rfl HS3.out.blk Try.underlying130 rfl (trsize f g)) rfl ?_
      have htr : ∀ j, ∃ p : SN × Nat, j < 16 → f j = pt p.1.b ∧ g j = .int .i64 (p.2 : Nat) ∧ TrAt hd A j p.1 p.2 := fun j => by
        by_cases hj : j < 16
        · obtain ⟨y, r, q⟩ := HT2.out j hj
          exact ⟨(y, r), fun _ => q⟩
        · exact ⟨(hd, 0), fun h => absurd h hj⟩
      refine ⟨fun j => (htr j).choose, fun j hj => ((htr j).choose_spec hj).2.2, ?_, HS3.out.drop1.drop1⟩
      unfold trV
      rw [trC_congr (fun j hj => ((htr j).choose_spec hj).1) (fun j hj => ((htr j).choose_spec hj).2.1)]
set_option maxHeartbeats 8000000 in
/-- 'down', by the closure (*mews/skip.List).Below$1. -/
theorem downBe {w0 w : World} {o : Nat} {seed : Int} {n : Nat} {hd : SN} {A B : List SN} {L : Lk} {C R : HP} {cap cap2 : Value} (hok : SkOk hd (A ++ B) L)
    (hA : ∀ y ∈ A, ∀ W Y, Sat w0 W (C * Y) → Calls Try.prog 90 #[.agg #[.string y.m, .int .i64 y.s], cap, cap2] W fun en W' => en = .returned (.bool true) ∧ Sat w0 W' (C * Y))
    (hB : ∀ y ∈ B, ∀ W Y, Sat w0 W (C * Y) → Calls Try.prog 90 #[.agg #[.string y.m, .int .i64 y.s], cap, cap2] W fun en W' => en = .returned (.bool false) ∧ Sat w0 W' (C * Y))
    (S : Sat w0 w (C * (skl o seed hd (A ++ B) L n * R))) :
    Calls Try.prog 85 #[pt o, .func (.func 90) #[] #[cap, cap2]] w fun en w' => ∃ tr : Nat → SN × Nat, (∀ k < 16, TrAt hd A k (tr k).1 (tr k).2) ∧ en = .returned (.agg (trV tr).toArray) ∧ Sat w0 w' (C * (skl o seed hd (A ++ B) L n * R)) := by
  have HS := Lib.hid S
  have HOK := Lib.hid hok
  have HA := Lib.hid hA
  have HB := Lib.hid hB
  obtain ⟨rb, hrb⟩ : ∃ rb, rb = w.heap.size := ⟨_, rfl⟩
  have S0 := (S.alloc (.cells (trC (fun _ => .pointer none) (fun _ => .int .i64 0)).toArray 130)).alloc (.cells (trC (fun _ => .pointer none) (fun _ => .int .i64 0)).toArray 130)
  rw [World.size_alloc, ← hrb] at S0
  have HS0 := Lib.hid S0
  have HRB := Lib.hid hrb
  clear S hok hA hB HS S0 hrb
  go_enter Try.func85, Try.ntmps85
  go_upto_region 2 with (fail)
  rw [← HRB.out, ← trZ]
  refine gen_w HS0.out ?_
  clear HS0 HRB
  intro w1 S1
  obtain ⟨c0, c1, c2⟩ := skl_cells S1.p4
  have HS1 := Lib.hid S1
  clear S1
  go_wp2_with fail
  clear c0 c1 c2
  go_loopg [6, 7, 14] 17 (fun kq v6 v7 v14 wr => ∃ (i : Nat) (x : SN) (pre M : List SN) (f g : Nat → Value), v14 = .int .i64 i ∧ v6 = pt x.b ∧ v7 = .int .i64 pre.length ∧ Hid (i ≤ 16 ∧ kq = 17 - i) ∧ Hid (hd :: A = pre ++ x :: M) ∧ Hid (16 ≤ x.h + i) ∧
    Hid (∀ j < 16, 16 ≤ j + i → ∃ y r, f j = pt y.b ∧ g j = .int .i64 (r : Nat) ∧ TrAt hd A j y r) ∧
    Hid (Sat w0 wr (pts (rb + 1) (.cells (trC f g).toArray 130 (0, 0)) * (pts rb (.cells (trC (fun _ => .pointer none) (fun _ => .int .i64 0)).toArray 130 (0, 0)) * (C * (skl o seed hd (A ++ B) L n * R))))))
  case atStart => exact ⟨0, hd, [], A, _, _, rfl, rfl, rfl, Lib.hid ⟨by omega, rfl⟩, Lib.hid rfl, Lib.hid (by rw [HOK.out.hh]; omega), Lib.hid (fun j hj h => by omega), HS1⟩
  case round =>
    clear HS1
    obtain ⟨i, x, pre, M, f, g, rfl, rfl, rfl, HI, HX, HH, HT, HSr⟩ := hrel
    have hi := HI.out.1
    by_cases hlt : i < 16
    · obtain ⟨k, hk⟩ : ∃ k, k = 15 - i := ⟨_, rfl⟩
      have HW := Lib.hid (show (15 : Int) - (i : Int) = (k : Int) by omega)
      have hk16 : k < 16 := by omega
      have HK := Lib.hid hk
      have hkx : k < x.h := by have := HH.out; omega
      have HKX := Lib.hid hkx
      clear hk hkx
      go_upto_region 7 with (fail)
      rw [HW.out, show decide ((i : Int) < 16) = true from by simp; omega]
      clear HW
      go_loopg [6, 7] M.length (fun kq v6 v7 wr => ∃ (x : SN) (pre M : List SN), v6 = pt x.b ∧ v7 = .int .i64 pre.length ∧ Hid (hd :: A = pre ++ x :: M) ∧ Hid (k < x.h) ∧ Hid (kq = M.length) ∧
        Hid (Sat w0 wr (pts (rb + 1) (.cells (trC f g).toArray 130 (0, 0)) * (pts rb (.cells (trC (fun _ => .pointer none) (fun _ => .int .i64 0)).toArray 130 (0, 0)) * (C * (skl o seed hd (A ++ B) L n * R))))))
      case atStart => exact ⟨x, pre, M, rfl, rfl, HX, HKX, Lib.hid rfl, HSr⟩
      case round =>
        clear HSr HX HKX HH x pre M
        obtain ⟨x, pre, M, rfl, rfl, HX, HKX, HQ, HSi⟩ := hrel
        have hcut : hd :: (A ++ B) = pre ++ x :: (M ++ B) := by
          have := HX.out
          rw [← List.cons_append, this]; simp
        have hxm : x ∈ hd :: (A ++ B) := by rw [hcut]; simp
        obtain ⟨x0, x1, x2, x3, x4⟩ := skl_at HOK.out hcut HKX.out HSi.out.p4
        have hlk := HOK.out.good k hk16 _ _ _ hcut HKX.out
        have hx16 := sk_top HOK.out hxm
        have hkl : (k : Int) < (x.h : Int) := by have := HKX.out; omega
        have hk0 : (0 : Int) ≤ (k : Int) := by omega
        have HCUT := Lib.hid hcut
        clear hcut hxm
        unfold LinkOk at hlk
        cases hnx : nx k (M ++ B) with
        | none =>
          rw [hnx] at hlk
          simp only at hlk
          rw [hlk.1] at x3
          have HALL : Hid (∀ z ∈ M, z.h ≤ k) := Lib.hid (fun z hz => nx_none.1 hnx z (by simp [hz]))
          clear hlk hnx
          obtain ⟨t0, tf, t1, tf2, ST⟩ := HSi.out.tr_store hk16 (pt x.b) (.int .i64 pre.length)
          have HST := Lib.hid ST
          clear ST
          go_wp2_with fail
          go_roundg (17 - (i + 1))
          case measure => have := HI.out; omega
          case rel =>
            refine ⟨i + 1, x, pre, M, _, _, by go_num, rfl, rfl, Lib.hid ⟨by omega, rfl⟩, HX, Lib.hid (by have := HKX.out; have := HK.out; omega), Lib.hid ?_, HST⟩
            intro j hj hji
            by_cases e : j = k
            · exact ⟨x, pre.length, by simp [e], by simp [e], pre, M, HX.out, rfl, by rw [e]; exact HKX.out, by rw [e]; exact HALL.out⟩
            · obtain ⟨y, r, q1, q2, q3⟩ := HT.out j hj (by have := HK.out; omega)
              exact ⟨y, r, by simp [e, q1], by simp [e, q2], q3⟩
        | some p =>
          obtain ⟨y, d⟩ := p
          rw [hnx] at hlk
          simp only at hlk
          have HLK := Lib.hid hlk
          rw [hlk.1] at x3
          rw [hlk.2] at x4
          clear hlk
          have hym : y ∈ hd :: (A ++ B) := by
            obtain ⟨M1, P, e, -⟩ := nx_some hnx
            rw [HCUT.out, e]; simp
          obtain ⟨y0, y1, -⟩ := skl_node hym HSi.out.p4
          rcases nx_parts hnx with ⟨M1, M2, hM, hd1, hky⟩ | ⟨hall, hyB⟩
          · have hyA : y ∈ A := by
              have e := HX.out
              rw [hM] at e
              cases pre with
              | nil =>
                simp only [List.nil_append, List.cons.injEq] at e
                rw [e.2]; simp
              | cons q qs =>
                simp only [List.cons_append, List.cons.injEq] at e
                rw [e.2]; simp
            have HCUTM := Lib.hid hM
            have HD1 := Lib.hid hd1
            have HKY := Lib.hid hky
            have hbig := HOK.out.big
            have hdl : (pre.length + d : Nat) ≤ 1000000000001 := by
              have e := congrArg List.length HX.out
              simp only [hM, List.length_cons, List.length_append] at e hbig
              omega
            have HY := Lib.hid hyA
            clear hM hd1 hky hyA hnx hym hbig
            go_wp2_with fail
            refine (HA.out y HY.out _ _ HSi.out.p3).mono ?_
            rintro en w3 ⟨rfl, S3⟩
            have S4 := S3.p3.p3
            obtain ⟨x0, x1, x2, x3, x4⟩ := skl_at HOK.out HCUT.out HKX.out S4.p4
            have hlk := HLK.out
            rw [hlk.1] at x3
            rw [hlk.2] at x4
            have HS4 := Lib.hid S4
            clear S3 S4 HSi hlk y0 y1
            go_wp2_with fail
            go_roundg M2.length
            case measure => have := HQ.out; rw [HCUTM.out] at this; simp at this; omega
            case rel =>
              refine ⟨y, pre ++ x :: M1, M2, rfl, ?_, Lib.hid (by rw [HX.out, HCUTM.out]; simp), HKY, Lib.hid rfl, HS4⟩
              rw [HD1.out, List.length_append, List.length_cons]
              go_num
          · have HY := Lib.hid hyB
            have HALL := Lib.hid hall
            clear hyB hall hnx hym
            go_wp2_with fail
            refine (HB.out y HY.out _ _ HSi.out.p3).mono ?_
            rintro en w3 ⟨rfl, S3⟩
            have HSi := Lib.hid S3.p3.p3
            clear S3 x0 x1 x2 x3 x4 y0 y1
            obtain ⟨t0, tf, t1, tf2, ST⟩ := HSi.out.tr_store hk16 (pt x.b) (.int .i64 pre.length)
            have HST := Lib.hid ST
            clear ST
            go_wp2_with fail
            go_roundg (17 - (i + 1))
            case measure => have := HI.out; omega
            case rel =>
              refine ⟨i + 1, x, pre, M, _, _, by go_num, rfl, rfl, Lib.hid ⟨by omega, rfl⟩, HX, Lib.hid (by have := HKX.out; have := HK.out; omega), Lib.hid ?_, HST⟩
              intro j hj hji
              by_cases e : j = k
              · exact ⟨x, pre.length, by simp [e], by simp [e], pre, M, HX.out, rfl, by rw [e]; exact HKX.out, by rw [e]; exact HALL.out⟩
              · obtain ⟨y, r, q1, q2, q3⟩ := HT.out j hj (by have := HK.out; omega)
                exact ⟨y, r, by simp [e, q1], by simp [e, q2], q3⟩
    · have h16 : i = 16 := by omega
      subst h16
      clear hlt hi
      have ht := fun (j : Nat) (hj : j < 16) => HT.out j hj (by omega)
      have hof : ∀ k < 16, (f k).oneCell' = true := fun j hj => by obtain ⟨y, r, q1, q2, _⟩ := ht j hj; rw [q1]; rfl
      have hog : ∀ k < 16, (g k).oneCell' = true := fun j hj => by obtain ⟨y, r, q1, q2, _⟩ := ht j hj; rw [q2]; rfl
      have HONE := Lib.hid (trC_one hof hog)
      have HLD := Lib.hid HSr.out.blk
      have S2 := HSr.out.p2
      have hth : wr.there rb 0 (trC f g).toArray.size := by
        intro j hj
        rw [List.size_toArray, trC_length] at hj
        have hz : (trC (fun _ => Value.pointer none) (fun _ => Value.int .i64 0))[j]?.isSome = true := by rw [List.getElem?_eq_getElem (by rw [trC_length]; exact hj)]; rfl
        obtain ⟨v, hv⟩ := Option.isSome_iff_exists.1 hz
        rw [Nat.zero_add]
        exact ⟨by rw [cell_of S2.blk j (by simpa using hv)]; rfl, frz_of S2.blk j⟩
      have HTH := Lib.hid hth
      have S3 := Sat.setCells (trC f g) 0 (by rw [trC_length, trC_length]; omega) S2
      rw [List.take_zero, List.nil_append, List.drop_of_length_le (by rw [trC_length, trC_length]; omega), List.append_nil] at S3
      have HS3 := Lib.hid S3
      have HT2 := Lib.hid ht
      clear hof hog S2 S3 hth ht HSr HT
      go_wp2_with (first
        | (with_reducible refine wpList_load_row rfl 130 (.tmp 5) rfl (rb + 1) rfl 130 (trC f g).toArray (0, 0) _ HLD.out Try.underlying130 rfl (trsize f g) ?_)
        | (with_reducible refine wpList_store_mid rfl 130 (.tmp 4) (.tmp 70) rfl rb 0 (trC f g).toArray rfl rfl HTH.out (trsize f g) HONE.out ?_))
      refine bodyPost_ret (results_cell_row rfl _ _ rb 130 _ (0, 0) _ rfl HS3.out.blk Try.underlying130 rfl (trsize f g)) rfl ?_
      have htr : ∀ j, ∃ p : SN × Nat, j < 16 → f j = pt p.1.b ∧ g j = .int .i64 (p.2 : Nat) ∧ TrAt hd A j p.1 p.2 := fun j => by
        by_cases hj : j < 16
        · obtain ⟨y, r, q⟩ := HT2.out j hj
          exact ⟨(y, r), fun _ => q⟩
        · exact ⟨(hd, 0), fun h => absurd h hj⟩
      refine ⟨fun j => (htr j).choose, fun j hj => ((htr j).choose_spec hj).2.2, ?_, HS3.out.drop1.drop1⟩
      unfold trV
      rw [trC_congr (fun j hj => ((htr j).choose_spec hj).1) (fun j hj => ((htr j).choose_spec hj).2.1)]
end Go.Sl
/-! ### SkE -/
namespace Go.Sl
open Go.RowKit Go.Proofs Go.Sl Go.Proofs.YteakblblpiihpaaW.PrintWords Go.Proofs.Yteakblblpiihpaa.PZs
set_option linter.unusedVariables false
set_option linter.unusedSimpArgs false
set_option maxRecDepth 100000

abbrev Sc := S30
abbrev SN.sc (x : SN) : Sc := ⟨x.m, x.s⟩
/-- Is a pair ahead of another one? -/
def ltS (a b : Sc) : Bool := decide (a.f1 < b.f1) || (a.f1 == b.f1 && Op.bytesLess a.f0.toList b.f0.toList)
theorem less_f (a b : Sc) : skip_less.f a.f0 a.f1 b.f0 b.f1 = some (ltS a b) := by
  unfold skip_less.f ltS
  by_cases h : a.f1 < b.f1
  · simp [h]
  · by_cases h2 : a.f1 = b.f1
    · simp [h2]
    · simp [h, h2]
abbrev scO (x : Sc) : Obj := .cells #[.string x.f0, .int .i64 x.f1] 30 (0, 0)
/-- The closure of 'to'. -/
theorem toFn {w0 w : World} {xb : Nat} {x : Sc} {Y : HP} (y : SN) (S : Sat w0 w (pts xb (scO x) * Y)) :
    Calls Try.prog 86 #[.agg #[.string y.m, .int .i64 y.s], pt xb] w fun en w' => en = .returned (.bool (ltS y.sc x)) ∧ Sat w0 w' (pts xb (scO x) * Y) := by
  obtain ⟨x0, x1, -⟩ := blk2 S.blk
  have hlt := S.lt
  have HS := Lib.hid (S.alloc (.cells #[.string y.m, .int .i64 y.s] 30)).drop1
  clear S
  go_enter Try.func86, Try.ntmps86
  go_wp2_with fail
  refine (skip_less.calls y.m y.s x.f0 x.f1 _ _ (less_f y.sc x)).mono ?_
  rintro en w1 ⟨rfl, hb⟩
  have HS1 := Lib.hid (HS.out.below hb)
  clear HS hb x0 x1 hlt
  go_wp2_with fail
  go_ret
  exact ⟨rfl, HS1.out⟩
/-- Is a score below a bound? -/
def beB (s : Int) (bnd : Int) (op : Bool) : Bool := decide (s < bnd) || (op && s == bnd)
/-- The closure of 'Below'. -/
theorem beFn {w0 w : World} {xb ob : Nat} {bnd : Int} {op : Bool} {Y : HP} (y : SN) (S : Sat w0 w ((pts xb (.cells #[.int .i64 bnd] 2 (0, 0)) * pts ob (.cells #[.bool op] 4 (0, 0))) * Y)) :
    Calls Try.prog 90 #[.agg #[.string y.m, .int .i64 y.s], pt xb, pt ob] w fun en w' => en = .returned (.bool (beB y.s bnd op)) ∧ Sat w0 w' ((pts xb (.cells #[.int .i64 bnd] 2 (0, 0)) * pts ob (.cells #[.bool op] 4 (0, 0))) * Y) := by
  have S1 := S
  rw [sep_assoc] at S1
  obtain ⟨x0, -⟩ := blk1 S1.blk
  obtain ⟨x1, -⟩ := blk1 S1.p2.blk
  have hlt := S1.lt
  have hlt2 := S1.p2.lt
  have HS := Lib.hid (S.alloc (.cells #[.string y.m, .int .i64 y.s] 30)).drop1
  clear S S1
  obtain ⟨r, hr⟩ : ∃ r, r = beB y.s bnd op := ⟨_, rfl⟩
  rw [← hr]
  have HR := Lib.hid hr
  clear hr
  by_cases h : y.s < bnd
  · have hd : decide (y.s < bnd) = true := decide_eq_true h
    go_enter Try.func90, Try.ntmps90
    go_wp2_with fail
    go_ret
    exact ⟨by rw [HR.out]; unfold beB; simp [h], HS.out⟩
  · have hd : decide (y.s < bnd) = false := decide_eq_false h
    cases op with
    | false =>
      go_enter Try.func90, Try.ntmps90
      go_wp2_with fail
      go_ret
      exact ⟨by rw [HR.out]; unfold beB; simp [h], HS.out⟩
    | true =>
      go_enter Try.func90, Try.ntmps90
      go_wp2_with fail
      go_ret
      exact ⟨by rw [HR.out]; unfold beB; simp [h]; omega, HS.out⟩
/-- 'Len'. -/
theorem skLen {w0 w : World} {o n : Nat} {seed : Int} {hd : SN} {xs : List SN} {L : Lk} {R : HP} (S : Sat w0 w (skl o seed hd xs L n * R)) :
    Calls Try.prog 73 #[pt o] w fun en w' => en = .returned (.int .i64 n) ∧ w = w' := by
  obtain ⟨c0, c1, c2⟩ := skl_cells S
  clear S
  go_enter Try.func73, Try.ntmps73
  go_wp2_with fail
  go_ret
  exact ⟨rfl, rfl⟩
/-- 'ready'. -/
theorem skReady {w0 w : World} {o n : Nat} {seed : Int} {hd : SN} {xs : List SN} {L : Lk} {R : HP} (S : Sat w0 w (skl o seed hd xs L n * R)) :
    Calls Try.prog 63 #[pt o] w fun en w' => en = .returned (.bool true) ∧ w = w' := by
  obtain ⟨c0, c1, c2⟩ := skl_cells S
  clear S
  go_enter Try.func63, Try.ntmps63
  go_wp2_with fail
  go_ret
  exact ⟨rfl, rfl⟩
theorem trS_there {w0 w : World} {b : Nat} {t : TypeId} {f g : Nat → Value} {f' g' : Nat → Value} {R : HP} (S : Sat w0 w (pts b (.cells (trC f g).toArray t (0, 0)) * R)) : w.there b 0 (trC f' g').toArray.size := by
  intro j hj
  rw [List.size_toArray, trC_length] at hj
  have hz : (trC f g)[j]?.isSome = true := by rw [List.getElem?_eq_getElem (by rw [trC_length]; exact hj)]; rfl
  obtain ⟨v, hv⟩ := Option.isSome_iff_exists.1 hz
  rw [Nat.zero_add]
  exact ⟨by rw [cell_of S.blk j (by simpa using hv)]; rfl, frz_of S.blk j⟩
theorem Sat.trS_put {w0 w : World} {b : Nat} {t : TypeId} {f g : Nat → Value} (f' g' : Nat → Value) {R : HP} (S : Sat w0 w (pts b (.cells (trC f g).toArray t (0, 0)) * R)) : Sat w0 (w.setCells b 0 (trC f' g')) (pts b (.cells (trC f' g').toArray t (0, 0)) * R) := by
  have S3 := Sat.setCells (trC f' g') 0 (by rw [trC_length, trC_length]; omega) S
  rwa [List.take_zero, List.nil_append, List.drop_of_length_le (by rw [trC_length, trC_length]; omega), List.append_nil] at S3
theorem trV_one (tr : Nat → SN × Nat) : (trV tr).toArray.all (·.oneCell') = true := trC_one (fun _ _ => rfl) (fun _ _ => rfl)
set_option maxHeartbeats 4000000 in
/-- 'to'. -/
theorem skTo {w0 w : World} {o n : Nat} {seed : Int} {hd : SN} {A B : List SN} {L : Lk} {x : Sc} {R : HP} (hok : SkOk hd (A ++ B) L) (hA : ∀ y ∈ A, ltS y.sc x = true) (hB : ∀ y ∈ B, ltS y.sc x = false) (S : Sat w0 w (skl o seed hd (A ++ B) L n * R)) :
    Calls Try.prog 64 #[pt o, .agg #[.string x.f0, .int .i64 x.f1]] w fun en w' => ∃ tr : Nat → SN × Nat, (∀ k < 16, TrAt hd A k (tr k).1 (tr k).2) ∧ en = .returned (.agg (trV tr).toArray) ∧ Sat w0 w' (skl o seed hd (A ++ B) L n * R) := by
  obtain ⟨xb, hxb⟩ : ∃ xb, xb = w.heap.size := ⟨_, rfl⟩
  have S0 := (S.alloc (scO x)).alloc (.cells (trC (fun _ => .pointer none) (fun _ => .int .i64 0)).toArray 130)
  rw [World.size_alloc, ← hxb] at S0
  have HS0 : Hid (Sat w0 _ (pts xb (scO x) * (skl o seed hd (A ++ B) L n * (pts (xb + 1) (.cells (trC (fun _ => .pointer none) (fun _ => .int .i64 0)).toArray 130 (0, 0)) * R)))) := Lib.hid (S0.cong (by ac_rfl))
  have HXB := Lib.hid hxb
  have HOK := Lib.hid hok
  have HA := Lib.hid hA
  have HB := Lib.hid hB
  clear S S0 hxb hok hA hB
  go_enter Try.func64, Try.ntmps64
  go_upto_region 1 with (fail)
  rw [← HXB.out, ← trZ]
  refine gen_w HS0.out ?_
  clear HS0 HXB
  intro w1 S1
  have HS1 := Lib.hid S1
  clear S1
  go_wp2_with (first
    | (go_at_call 85; refine (downTo (C := pts xb (scO x)) HOK.out (fun y hy W Y SY => by have := toFn (x := x) y SY; rw [HA.out y hy] at this; exact this) (fun y hy W Y SY => by have := toFn (x := x) y SY; rw [HB.out y hy] at this; exact this) HS1.out).mono ?_; rintro en w2 ⟨tr, htr, rfl, S2⟩; have HTR := Lib.hid htr; have HS2 := Lib.hid (S2.p3); clear S2 htr)
    | (with_reducible refine wpList_store_mid rfl 130 (.tmp 4) (.tmp 7) rfl (xb + 1) 0 (trV tr).toArray rfl rfl (trS_there HS2.out) (trsize _ _) (trV_one tr) ?_))
  have S3 := HS2.out.trS_put (fun k => pt (tr k).1.b) (fun k => .int .i64 (tr k).2)
  refine bodyPost_ret (results_cell_row rfl _ _ (xb + 1) 130 _ (0, 0) _ rfl S3.blk Try.underlying130 rfl (trsize _ _)) rfl ?_
  exact ⟨tr, HTR.out, rfl, S3.drop1.drop1⟩
end Go.Sl
/-! ### SkF -/
namespace Go.Sl
open Go.RowKit Go.Proofs Go.Sl Go.Proofs.YteakblblpiihpaaW.PrintWords Go.Proofs.Yteakblblpiihpaa.PZs
set_option linter.unusedVariables false
set_option linter.unusedSimpArgs false
set_option maxRecDepth 100000

/-- The same pair? -/
def eqS (a b : Sc) : Bool := a.f0.toList == b.f0.toList && a.f1 == b.f1
theorem eqS_iff {a b : Sc} : eqS a b = true ↔ a = b := by
  unfold eqS
  rw [Bool.and_eq_true, beq_iff_eq, beq_iff_eq]
  constructor
  · rintro ⟨h1, h2⟩
    obtain ⟨a0, a1⟩ := a
    obtain ⟨b0, b1⟩ := b
    simp only at h1 h2
    rw [baInj h1, h2]
  · rintro rfl; exact ⟨rfl, rfl⟩
theorem scEq (a b : Sc) (w : World) : (binOp .eql 30 (.agg #[.string a.f0, .int .i64 a.f1]) (.agg #[.string b.f0, .int .i64 b.f1])).run Try.prog w = .ok (.bool (eqS a b)) w := by
  go_simp
  unfold eqS
  by_cases h1 : a.f0.toList = b.f0.toList
  · by_cases h2 : a.f1 = b.f1
    · simp [h1, h2]
    · simp [h1, h2]
  · simp [h1]
/-- At the lowest level a trail leads to the last one that is ahead. -/
theorem tr_low {hd : SN} {A B : List SN} {L : Lk} (hok : SkOk hd (A ++ B) L) {x : SN} {r : Nat} (h : TrAt hd A 0 x r) : ∃ pre, hd :: A = pre ++ [x] ∧ r = A.length := by
  obtain ⟨pre, M, e, hr, hx, hM⟩ := h
  have hM0 : M = [] := by
    cases M with
    | nil => rfl
    | cons z M =>
      exfalso
      have hz : z ∈ A := by
        cases pre with
        | nil => simp only [List.nil_append, List.cons.injEq] at e; rw [e.2]; simp
        | cons q qs => simp only [List.cons_append, List.cons.injEq] at e; rw [e.2]; simp
      have := (hok.hts z (by simp [hz])).1
      have := hM z (by simp)
      omega
  subst hM0
  refine ⟨pre, e, ?_⟩
  have := congrArg List.length e
  simp at this
  omega
/-- Is the first one of these that pair? -/
def headIs (B : List SN) (x : Sc) : Bool := match B with | [] => false | y :: _ => eqS y.sc x
abbrev trO (tr : Nat → SN × Nat) : Obj := .cells (trV tr).toArray 130 (0, 0)
def nextC (w : World) (g : Nat) (B : List SN) : Prop := match B with | [] => w.cell? ⟨g, 0, none⟩ = some (.pointer none) | y :: _ => w.cell? ⟨g, 0, none⟩ = some (pt y.b) ∧ w.cell? ⟨y.b, 0, none⟩ = some (.string y.m) ∧ w.cell? ⟨y.b, 1, none⟩ = some (.int .i64 y.s)
/-- What the lowest link of a trail leads to. -/
theorem tr_next {w0 w : World} {o n tb : Nat} {seed : Int} {hd : SN} {A B : List SN} {L : Lk} {tr : Nat → SN × Nat} {R : HP} (hok : SkOk hd (A ++ B) L) (htr : TrAt hd A 0 (tr 0).1 (tr 0).2) (S : Sat w0 w (pts tb (trO tr) * (skl o seed hd (A ++ B) L n * R))) :
    w.cell? ⟨tb, 0, none⟩ = some (pt (tr 0).1.b) ∧ w.cell? ⟨tb, 16, none⟩ = some (.int .i64 A.length) ∧ 0 < (tr 0).1.h ∧ w.cell? ⟨(tr 0).1.b, 2, none⟩ = some (.slice (some ⟨(tr 0).1.g, 0, none⟩) (tr 0).1.h (tr 0).1.h) ∧
    nextC w (tr 0).1.g B := by
  obtain ⟨pre, e, hr⟩ := tr_low hok htr
  have hx : 0 < (tr 0).1.h := by obtain ⟨_, _, _, _, h, _⟩ := htr; exact h
  have ec : hd :: (A ++ B) = pre ++ (tr 0).1 :: B := by rw [← List.cons_append, e]; simp
  obtain ⟨x0, x1, x2, x3, x4⟩ := skl_at hok ec hx S.p2
  have hlk := hok.good 0 (by decide) _ _ _ ec hx
  rw [Nat.zero_mul] at x3
  refine ⟨cell_of S.blk 0 (by simpa using trC_at (f := fun k => pt (tr k).1.b) (g := fun k => .int .i64 (tr k).2) (k := 0) (by decide)), ?_, hx, x2, ?_⟩
  · have := cell_of S.blk 16 (v := .int .i64 (tr 0).2) (by simpa using trC_rank (f := fun k => pt (tr k).1.b) (g := fun k => .int .i64 (tr k).2) (k := 0) (by decide))
    rw [hr] at this
    exact this
  · cases B with
    | nil =>
      unfold LinkOk at hlk
      simp only [nx] at hlk
      rw [hlk.1] at x3
      exact x3
    | cons y B =>
      have hy : 0 < y.h := (hok.hts y (by simp)).1
      unfold LinkOk at hlk
      rw [nx_here B hy] at hlk
      simp only at hlk
      rw [hlk.1] at x3
      obtain ⟨y0, y1, _⟩ := skl_node (y := y) (by simp) S.p2
      exact ⟨x3, y0, y1⟩
/-- 'has'. -/
theorem skHas {w0 w : World} {o n tb : Nat} {seed : Int} {hd : SN} {A B : List SN} {L : Lk} {tr : Nat → SN × Nat} {x : Sc} {R : HP} (hok : SkOk hd (A ++ B) L) (htr : TrAt hd A 0 (tr 0).1 (tr 0).2) (S : Sat w0 w (pts tb (trO tr) * (skl o seed hd (A ++ B) L n * R))) :
    Calls Try.prog 65 #[pt tb, .agg #[.string x.f0, .int .i64 x.f1]] w fun en w' => en = .returned (.bool (headIs B x)) ∧ Sat w0 w' (pts tb (trO tr) * (skl o seed hd (A ++ B) L n * R)) := by
  obtain ⟨xb, hxb⟩ : ∃ xb, xb = w.heap.size := ⟨_, rfl⟩
  have S0 := (S.alloc (scO x))
  rw [← hxb] at S0
  have HS0 := Lib.hid S0
  have HXB := Lib.hid hxb
  have HTR := Lib.hid htr
  have HOK := Lib.hid hok
  clear S S0 hxb hok htr
  go_enter Try.func65, Try.ntmps65
  go_upto_region 1 with (fail)
  rw [← HXB.out]
  refine gen_w HS0.out ?_
  clear HS0 HXB
  intro w1 S1
  obtain ⟨z0, z1, -⟩ := blk2 S1.blk
  obtain ⟨t0, t1, hx, t2, t3⟩ := tr_next HOK.out HTR.out S1.drop1
  have hx1 : (0 : Int) < ((tr 0).1.h : Int) := by omega
  have HS1 := Lib.hid S1.drop1
  clear S1
  cases B with
  | nil =>
    have t3 : _ = _ := t3
    go_wp2_with fail
    go_quiet (fail)
    go_wp2_with fail
    go_ret
    exact ⟨rfl, HS1.out.below (below_drewN (Below.refl _ _) nq)⟩
  | cons y B =>
    obtain ⟨t3, t4, t5⟩ : _ ∧ _ ∧ _ := t3
    have hq := fun w => scEq y.sc x w
    go_wp2_with fail
    go_quiet (fail)
    go_wp2_with fail
    go_ret
    exact ⟨rfl, HS1.out.below (below_drewN (Below.refl _ _) nq)⟩
/-- What 'Rank' tells. -/
def rankI (A B : List SN) (x : Sc) : Int := if headIs B x then A.length else -1
set_option maxHeartbeats 4000000 in
/-- 'Rank'. -/
theorem skRank {w0 w : World} {o n : Nat} {seed : Int} {hd : SN} {A B : List SN} {L : Lk} {x : Sc} {R : HP} (hn : n = (A ++ B).length) (hok : SkOk hd (A ++ B) L) (hA : ∀ y ∈ A, ltS y.sc x = true) (hB : ∀ y ∈ B, ltS y.sc x = false) (S : Sat w0 w (skl o seed hd (A ++ B) L n * R)) :
    Calls Try.prog 43 #[pt o, .agg #[.string x.f0, .int .i64 x.f1]] w fun en w' => en = .returned (.int .i64 (rankI A B x)) ∧ Sat w0 w' (skl o seed hd (A ++ B) L n * R) := by
  obtain ⟨xb, hxb⟩ : ∃ xb, xb = w.heap.size := ⟨_, rfl⟩
  have S0 := (S.alloc (scO x))
  rw [← hxb] at S0
  have HS0 := Lib.hid S0
  have HXB := Lib.hid hxb
  have HOK := Lib.hid hok
  have HA := Lib.hid hA
  have HB := Lib.hid hB
  have HN := Lib.hid hn
  clear S S0 hxb hok hA hB hn
  go_enter Try.func43, Try.ntmps43
  go_upto_region 1 with (fail)
  rw [← HXB.out]
  refine gen_w HS0.out ?_
  clear HS0 HXB
  intro w1 S1
  obtain ⟨z0, z1, -⟩ := blk2 S1.blk
  have HS1 := Lib.hid S1
  clear S1
  go_wp2_with fail
  refine (skLen HS1.out.p2).mono ?_
  rintro en w' ⟨rfl, rfl⟩
  by_cases h0 : n = 0
  · have h0d : ((n : Int) == 0) = true := by simp [h0]
    have hz : rankI A B x = -1 := by
      have e := HN.out
      rw [h0] at e
      have : B = [] := (List.append_eq_nil_iff.1 (List.eq_nil_of_length_eq_zero e.symm)).2
      rw [this]; rfl
    have HZ := Lib.hid hz
    clear hz h0
    go_wp2_with fail
    go_ret
    exact ⟨by rw [HZ.out]; rfl, HS1.out.drop1⟩
  · have h0d : ((n : Int) == 0) = false := by simp; omega
    clear h0
    go_wp2_with fail
    refine (skTo HOK.out HA.out HB.out HS1.out.p2).mono ?_
    rintro en w2 ⟨tr, htr, rfl, S2⟩
    have HTR := Lib.hid (htr 0 (by decide))
    obtain ⟨tb, htb⟩ : ∃ tb, tb = w2.heap.size := ⟨_, rfl⟩
    have S3 := (S2.alloc (.cells (trC (fun _ => .pointer none) (fun _ => .int .i64 0)).toArray 130)).cong (show _ = _ from rfl)
    have hth := trS_there (f' := fun k => pt (tr k).1.b) (g' := fun k => .int .i64 (tr k).2) S3
    have S4 := S3.trS_put (fun k => pt (tr k).1.b) (fun k => .int .i64 (tr k).2)
    rw [trZ] at hth S4
    have HTH := Lib.hid hth
    rw [← htb] at S4
    have HS4 := Lib.hid S4
    have HTB := Lib.hid htb
    clear S2 S3 S4 htr HS1 z0 z1 htb hth
    go_upto_region 4 with (with_reducible refine wpList_store_mid rfl 130 (.tmp 5) (.tmp 11) rfl w2.heap.size 0 (trV tr).toArray rfl rfl HTH.out (trsize _ _) (trV_one tr) ?_)
    rw [← HTB.out]
    refine gen_w HS4.out ?_
    clear HS4 HTB HTH
    intro w3 S3
    obtain ⟨z0, z1, -⟩ := blk2 S3.p3.blk
    have HS5 : Hid (Sat w0 w3 (pts tb (trO tr) * (skl o seed hd (A ++ B) L n * (pts xb (scO x) * R)))) := Lib.hid S3
    clear S3
    simp only [Act.put]
    go_wp2_with fail
    refine (skHas HOK.out HTR.out HS5.out).mono ?_
    rintro en w4 ⟨rfl, S6⟩
    obtain ⟨-, t1, -, -, -⟩ := tr_next HOK.out HTR.out S6
    have HS6 := Lib.hid S6.drop1
    clear S6 HS5 z0 z1
    cases hh : headIs B x
    · have HH := Lib.hid hh
      clear hh
      go_wp2_with fail
      go_ret
      exact ⟨by unfold rankI; rw [HH.out]; rfl, HS6.out.p2.drop1⟩
    · have HH := Lib.hid hh
      clear hh
      go_wp2_with fail
      go_ret
      exact ⟨by unfold rankI; rw [HH.out]; rfl, HS6.out.p2.drop1⟩
theorem tr_field (tr : Nat → SN × Nat) (w : World) : (Instr.field 130 (.agg (trV tr).toArray) 1).run Try.prog w = .ok (.agg #[Value.int .i64 ((tr 0).2 : Nat), Value.int .i64 ((tr 1).2 : Nat), Value.int .i64 ((tr 2).2 : Nat), Value.int .i64 ((tr 3).2 : Nat), Value.int .i64 ((tr 4).2 : Nat), Value.int .i64 ((tr 5).2 : Nat), Value.int .i64 ((tr 6).2 : Nat), Value.int .i64 ((tr 7).2 : Nat), Value.int .i64 ((tr 8).2 : Nat), Value.int .i64 ((tr 9).2 : Nat), Value.int .i64 ((tr 10).2 : Nat), Value.int .i64 ((tr 11).2 : Nat), Value.int .i64 ((tr 12).2 : Nat), Value.int .i64 ((tr 13).2 : Nat), Value.int .i64 ((tr 14).2 : Nat), Value.int .i64 ((tr 15).2 : Nat)]) w := by kernel_rfl
theorem tr_index (tr : Nat → SN × Nat) (w : World) : (Instr.index 128 (.agg #[Value.int .i64 ((tr 0).2 : Nat), Value.int .i64 ((tr 1).2 : Nat), Value.int .i64 ((tr 2).2 : Nat), Value.int .i64 ((tr 3).2 : Nat), Value.int .i64 ((tr 4).2 : Nat), Value.int .i64 ((tr 5).2 : Nat), Value.int .i64 ((tr 6).2 : Nat), Value.int .i64 ((tr 7).2 : Nat), Value.int .i64 ((tr 8).2 : Nat), Value.int .i64 ((tr 9).2 : Nat), Value.int .i64 ((tr 10).2 : Nat), Value.int .i64 ((tr 11).2 : Nat), Value.int .i64 ((tr 12).2 : Nat), Value.int .i64 ((tr 13).2 : Nat), Value.int .i64 ((tr 14).2 : Nat), Value.int .i64 ((tr 15).2 : Nat)]) (.int .i64 0)).run Try.prog w = .ok (.int .i64 ((tr 0).2 : Nat)) w := by kernel_rfl
set_option maxHeartbeats 4000000 in
/-- 'Below'. -/
theorem skBelow {w0 w : World} {o n : Nat} {seed : Int} {hd : SN} {A B : List SN} {L : Lk} {bnd : Int} {op : Bool} {R : HP} (hn : n = (A ++ B).length) (hok : SkOk hd (A ++ B) L) (hA : ∀ y ∈ A, beB y.s bnd op = true) (hB : ∀ y ∈ B, beB y.s bnd op = false) (S : Sat w0 w (skl o seed hd (A ++ B) L n * R)) :
    Calls Try.prog 75 #[pt o, .int .i64 bnd, .bool op] w fun en w' => en = .returned (.int .i64 A.length) ∧ Sat w0 w' (skl o seed hd (A ++ B) L n * R) := by
  obtain ⟨xb, hxb⟩ : ∃ xb, xb = w.heap.size := ⟨_, rfl⟩
  have S0 := (S.alloc (.cells #[.int .i64 bnd] 2)).alloc (.cells #[.bool op] 4)
  rw [World.size_alloc, ← hxb] at S0
  have HS0 : Hid (Sat w0 _ ((pts xb (.cells #[.int .i64 bnd] 2 (0, 0)) * pts (xb + 1) (.cells #[.bool op] 4 (0, 0))) * (skl o seed hd (A ++ B) L n * R))) := Lib.hid (S0.cong (by ac_rfl))
  have HXB := Lib.hid hxb
  have HOK := Lib.hid hok
  have HA := Lib.hid hA
  have HB := Lib.hid hB
  have HN := Lib.hid hn
  clear S S0 hxb hok hA hB hn
  go_enter Try.func75, Try.ntmps75
  go_upto_region 1 with (fail)
  rw [← HXB.out]
  refine gen_w HS0.out ?_
  clear HS0 HXB
  intro w1 S1
  have HS1 := Lib.hid S1
  clear S1
  go_wp2_with fail
  refine (skLen HS1.out.p2).mono ?_
  rintro en w' ⟨rfl, rfl⟩
  by_cases h0 : n = 0
  · have h0d : ((n : Int) == 0) = true := by simp [h0]
    have hz : A.length = 0 := by
      have e := HN.out
      rw [h0, List.length_append] at e
      omega
    have HZ := Lib.hid hz
    clear hz h0
    go_wp2_with fail
    go_ret
    exact ⟨by rw [HZ.out]; rfl, HS1.out.drop1⟩
  · have h0d : ((n : Int) == 0) = false := by simp; omega
    clear h0
    go_wp2_with fail
    refine (downBe (C := pts xb (.cells #[.int .i64 bnd] 2 (0, 0)) * pts (xb + 1) (.cells #[.bool op] 4 (0, 0))) HOK.out (fun y hy W Y SY => by have := beFn (bnd := bnd) (op := op) y SY; rw [HA.out y hy] at this; exact this) (fun y hy W Y SY => by have := beFn (bnd := bnd) (op := op) y SY; rw [HB.out y hy] at this; exact this) HS1.out).mono ?_
    rintro en w2 ⟨tr, htr, rfl, S2⟩
    obtain ⟨pre, -, hr⟩ := tr_low HOK.out (htr 0 (by decide))
    have HS2 := Lib.hid S2.drop1
    have HR := Lib.hid hr
    clear S2 HS1 htr hr
    have hf := tr_field tr w2
    have hx := tr_index tr w2
    go_wp2_with fail
    go_ret
    exact ⟨by rw [← HR.out]; rfl, HS2.out⟩
end Go.Sl
/-! ### SkG -/
namespace Go.Sl
open Go.RowKit Go.Proofs Go.Sl Go.Proofs.YteakblblpiihpaaW.PrintWords Go.Proofs.Yteakblblpiihpaa.PZs
set_option linter.unusedVariables false
set_option linter.unusedSimpArgs false
set_option maxRecDepth 100000

abbrev L0 : Nat → Value × Value := fun _ => (.pointer none, .int .i64 0)
theorem made_links (n : Nat) : madeCells (Value.agg #[.pointer none, .int .i64 0]).cells (n * 2) = (lks n L0).toArray := by
  apply Array.ext'
  rw [List.toList_toArray]
  unfold madeCells lks
  rw [Array.toList_map, Array.toList_range, Nat.mul_comm n 2]
  refine List.map_congr_left fun j hj => ?_
  rcases Nat.mod_two_eq_zero_or_one j with h | h
  · rw [show (Value.agg #[.pointer none, .int .i64 0]).cells = #[Value.pointer none, Value.int .i64 0] from rfl]
    simp [h]
  · rw [show (Value.agg #[.pointer none, .int .i64 0]).cells = #[Value.pointer none, Value.int .i64 0] from rfl]
    simp [h]
theorem linkInfo : (Try.prog.info? sL).map (fun i => (i.zero, i.size, i.bytes)) = some (some (.agg #[.pointer none, .int .i64 0]), 2, 16) := by kernel_rfl
theorem run_links (w : World) (n : Nat) (hn : n ≤ 16) : (Instr.makeSlice 134 (.int .i64 n) (.int .i64 n)).run Try.prog w = .ok (.slice (some ⟨w.heap.size, 0, none⟩) n n) (w.alloc (.cells (lks n L0).toArray sL)) := by
  obtain ⟨i, hi, hz, hs, hb⟩ := info_parts linkInfo
  have := run_make (P := Try.prog) w 134 sL i (.agg #[.pointer none, .int .i64 0]) Try.underlying134 hi hz .i64 .i64 n n (by omega) (Int.le_refl _) (by rw [hb]; omega) (by omega)
  simp only [Int.toNat_natCast, hs, made_links] at this
  exact this
/-- 'New(seed)'. -/
theorem skNew {w0 w : World} {seed : Int} {R : HP} (S : Sat w0 w R) :
    Calls Try.prog 46 #[.int .u64 seed] w fun en w' => ∃ o hd L, en = .returned (pt o) ∧ SkOk hd [] L ∧ Sat w0 w' (skl o seed hd [] L 0 * R) := by
  obtain ⟨g, hg⟩ : ∃ g, g = w.heap.size := ⟨_, rfl⟩
  have hr : (Instr.makeSlice 134 (.int .i64 16) (.int .i64 16)).run Try.prog w = .ok (.slice (some ⟨w.heap.size, 0, none⟩) 16 16) (w.alloc (.cells (lks 16 L0).toArray sL)) := run_links w 16 (by decide)
  rw [← hg] at hr
  have S1 := ((S.alloc (.cells (lks 16 L0).toArray sL)).alloc (.cells #[.string ⟨#[]⟩, .int .i64 0, .slice (some ⟨g, 0, none⟩) 16 16] sN)).alloc (.cells #[.int .u64 seed, pt (g + 1), .int .i64 0] 139)
  simp only [World.size_alloc] at S1
  rw [← hg] at S1
  have HS1 := Lib.hid S1
  have HG := Lib.hid hg
  clear S S1 hg
  obtain ⟨Z, hZ⟩ : ∃ Z, Z = (lks 16 L0).toArray := ⟨_, rfl⟩
  rw [← hZ] at hr HS1
  have HZ := Lib.hid hZ
  clear hZ
  go_enter Try.func46, Try.ntmps46
  go_wp2_with fail
  go_ret
  rw [← HG.out]
  refine ⟨g + 1 + 1, ⟨g + 1, g, ⟨#[]⟩, 0, 16⟩, fun _ => L0, rfl, ⟨rfl, by simp, fun k hk pre x post e hx => ?_, by simp, by simp⟩, ?_⟩
  · have : pre = [] ∧ post = [] := by
      have := congrArg List.length e
      simp only [List.length_cons, List.length_nil, List.length_append] at this
      exact ⟨List.eq_nil_of_length_eq_zero (by omega), List.eq_nil_of_length_eq_zero (by omega)⟩
    rw [this.2]
    exact ⟨rfl, 0, rfl⟩
  · refine Sat.cong HS1.out ?_
    rw [HZ.out]
    unfold skl
    rw [sks_cons, sks_nil, mul_emp]
    unfold snode
    dsimp only
    rw [show ((0 : Nat) : Int) = 0 from rfl]
    ac_rfl
/-- Some height. -/
def SomeH (en : Ending) : Prop := ∃ h : Nat, 1 ≤ h ∧ h ≤ 16 ∧ en = .returned (.int .i64 h)
/-- 'height'. -/
theorem skHeight {w0 w : World} {o n : Nat} {seed : Int} {hd : SN} {xs : List SN} {L : Lk} {key : ByteArray} {R : HP} (hk : key.size ≤ maxLen) (S : Sat w0 w (skl o seed hd xs L n * R)) :
    Calls Try.prog 66 #[pt o, .string key] w fun en w' => SomeH en ∧ w = w' := by
  obtain ⟨c0, c1, c2⟩ := skl_cells S
  have HK := Lib.hid hk
  clear S hk
  go_enter Try.func66, Try.ntmps66
  go_wp2_with fail
  refine (hof_calls seed key _ HK.out).mono ?_
  rintro en w' ⟨rfl, rfl⟩
  generalize hof seed key = H
  clear c0 c1 c2
  go_wp2_with fail
  go_loop [5, 6] (fun v5 v6 => ∃ (H : Int) (i : Nat), v5 = .int .u64 H ∧ v6 = .int .i64 i ∧ 1 ≤ i ∧ i ≤ 16) (fun _ v6 => 16 - (intOf v6).toNat)
  case atStart => exact ⟨_, 1, rfl, rfl, by omega, by omega⟩
  case round =>
    obtain ⟨H, i, rfl, rfl, h1, h2⟩ := hrel
    by_cases hlt : i < 16
    · by_cases hb : bits .and .u64 H 3 = 3
      · have hbb : (bits .and .u64 H 3 == 3) = true := by simpa using hb
        clear hb
        go_wp2_with fail
        go_round
        case rel => exact ⟨_, i + 1, rfl, by go_num, by omega, by omega⟩
        case measure => simp [intOf]; omega
      · have hbb : (bits .and .u64 H 3 == 3) = false := by simpa using hb
        clear hb
        go_wp2_with fail
        go_ret
        exact ⟨⟨i, h1, h2, rfl⟩, rfl⟩
    · go_wp2_with fail
      go_ret
      exact ⟨⟨i, h1, h2, rfl⟩, rfl⟩
end Go.Sl
