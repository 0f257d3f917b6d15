/-
  Package freq: plain laws of Halve: all keys, in the order of their last touch, halved.
-/
import Derived.Test.YtgkjendknckibaaFqA
import Derived.Sort.Statements
namespace Go.Sl
set_option linter.unusedVariables false
set_option linter.unusedSimpArgs false

theorem filter_or_perm {α : Type} (p q r : α → Bool) : ∀ l : List α, (∀ x ∈ l, r x = (p x || q x)) → (∀ x ∈ l, ¬ (p x = true ∧ q x = true)) → (l.filter r).Perm (l.filter p ++ l.filter q)
  | [], _, _ => .refl _
  | x :: l, h, hd => by
    have ih := filter_or_perm p q r l (fun y hy => h y (List.mem_cons_of_mem _ hy)) (fun y hy => hd y (List.mem_cons_of_mem _ hy))
    have hx := h x (List.mem_cons_self ..)
    have hdx := hd x (List.mem_cons_self ..)
    cases hp : p x with
    | true =>
      have hq : q x = false := by cases hq : q x with | true => exact absurd ⟨hp, hq⟩ hdx | false => rfl
      rw [List.filter_cons_of_pos (by rw [hx, hp]; rfl), List.filter_cons_of_pos hp, List.filter_cons_of_neg (by rw [hq]; decide)]
      exact ih.cons x
    | false =>
      cases hq : q x with
      | true =>
        rw [List.filter_cons_of_pos (by rw [hx, hp, hq]; rfl), List.filter_cons_of_neg (by rw [hp]; decide), List.filter_cons_of_pos hq]
        exact (ih.cons x).trans List.perm_middle.symm
      | false =>
        rw [List.filter_cons_of_neg (by rw [hx, hp, hq]; decide), List.filter_cons_of_neg (by rw [hp]; decide), List.filter_cons_of_neg (by rw [hq]; decide)]
        exact ih
theorem rows_perm {es : List Mk} {now : Int} (ho : FOk es now) : ∀ n : Nat, (upTo (rowOf es) n).Perm ((es.filter fun m : Mk => decide (m.c < (n : Int))).map (·.k))
  | 0 => by
    have : es.filter (fun m : Mk => decide (m.c < ((0 : Nat) : Int))) = [] := List.filter_eq_nil_iff.2 fun m hm => by have := (ho.pos m hm).1; simp; omega
    rw [this]; exact .refl _
  | n + 1 => by
    rw [upTo]
    refine List.Perm.trans (List.Perm.append (rows_perm ho n) (.refl _)) ?_
    unfold rowOf
    rw [← List.map_append]
    refine List.Perm.map _ (filter_or_perm _ _ _ es (fun m _ => ?_) (fun m _ => ?_)).symm
    · rw [Bool.eq_iff_iff]; simp; omega
    · simp; omega
theorem all_perm {es : List Mk} {now : Int} (ho : FOk es now) : (allOf es).Perm (es.map (·.k)) := by
  have := rows_perm ho 256
  rw [List.filter_eq_self.2 (fun m hm => by have := (ho.pos m hm).2.1; simp; omega)] at this
  exact this
/-- When a key was touched last. -/
def whenOf (es : List Mk) (key : ByteArray) : Int := ((findM es key).map (·.t)).getD 0
theorem findM_self {es : List Mk} {now : Int} (ho : FOk es now) {m : Mk} (hm : m ∈ es) : findM es m.k = some m := by
  cases hf : findM es m.k with
  | none => exact absurd (List.find?_eq_none.1 hf m hm) (by simp)
  | some m' =>
    obtain ⟨h1, h2⟩ := findM_some hf
    rw [ho.same hm h1 h2]
theorem whenOf_self {es : List Mk} {now : Int} (ho : FOk es now) {m : Mk} (hm : m ∈ es) : whenOf es m.k = m.t := by
  unfold whenOf; rw [findM_self ho hm]; rfl
theorem FOk.same_t {es : List Mk} {now : Int} (ho : FOk es now) {m m' : Mk} (h : m ∈ es) (h' : m' ∈ es) (e : m'.t = m.t) : m' = m := by
  obtain ⟨i, hi, rfl⟩ := List.getElem_of_mem h
  obtain ⟨j, hj, rfl⟩ := List.getElem_of_mem h'
  have ht := List.pairwise_iff_getElem.1 ho.ts
  rcases Nat.lt_trichotomy i j with hij | hij | hij
  · have := ht i j hi hj hij; omega
  · subst hij; rfl
  · have := ht j i hj hi hij; omega
/-- What is sorted by when it was touched, is in the book's own order. -/
theorem sorted_keys {es : List Mk} {now : Int} (ho : FOk es now) {l : List ByteArray} (hp : l.Perm (es.map (·.k))) (hs : l.Pairwise fun a b => whenOf es a ≤ whenOf es b) : l = es.map (·.k) := by
  refine List.Perm.eq_of_pairwise (le := fun a b => whenOf es a ≤ whenOf es b) (fun a b ha hb h1 h2 => ?_) hs ?_ hp
  · obtain ⟨m, hm, rfl⟩ := List.mem_map.1 (hp.mem_iff.1 ha)
    obtain ⟨m', hm', rfl⟩ := List.mem_map.1 hb
    rw [whenOf_self ho hm, whenOf_self ho hm'] at h1 h2
    rw [ho.same_t hm' hm (by omega)]
  · refine List.pairwise_map.2 (ho.ts.imp_of_mem fun {a b} ha hb h => ?_)
    rw [whenOf_self ho ha, whenOf_self ho hb]; omega

/-- A key's mark, halved. -/
def halfM (m : Mk) : Mk := ⟨m.k, if 1 < m.c then m.c / 2 else m.c, m.t⟩
def lessN (es : List Mk) : Nat := (es.filter fun m => decide (1 < m.c)).length
theorem FOk.half {es : List Mk} {now : Int} (ho : FOk es now) : FOk (es.map halfM) now where
  ks := by rw [List.map_map]; exact ho.ks
  ts := List.pairwise_map.2 ho.ts
  pos := fun m hm => by
    obtain ⟨m', hm', rfl⟩ := List.mem_map.1 hm
    have := ho.pos m' hm'
    unfold halfM
    refine ⟨?_, ?_, this.2.2⟩ <;> (simp only; split <;> omega)
  n0 := ho.n0
  n1 := ho.n1
  len := by rw [List.length_map]; exact ho.len
/-- The marks when i keys are halved. -/
def midOf (es : List Mk) (i : Nat) : List Mk := (es.take i).map halfM ++ es.drop i
theorem mid_zero (es : List Mk) : midOf es 0 = es := by simp [midOf]
theorem mid_full (es : List Mk) : midOf es es.length = es.map halfM := by simp [midOf]
theorem mid_at {es : List Mk} {i : Nat} (h : i < es.length) : midOf es i = (es.take i).map halfM ++ es[i] :: es.drop (i + 1) := by
  unfold midOf; rw [List.drop_eq_getElem_cons h]
theorem mid_succ {es : List Mk} {i : Nat} (h : i < es.length) : midOf es (i + 1) = (es.take i).map halfM ++ halfM es[i] :: es.drop (i + 1) := by
  unfold midOf; rw [List.take_succ_eq_append_getElem h, List.map_append, List.append_assoc]; rfl
theorem mid_keys (es : List Mk) (i : Nat) : (midOf es i).map (·.k) = es.map (·.k) := by
  unfold midOf
  rw [List.map_append, List.map_map, show ((fun m : Mk => m.k) ∘ halfM) = (fun m : Mk => m.k) from rfl, ← List.map_append, List.take_append_drop]
theorem mid_lk {es : List Mk} {now : Int} (ho : FOk es now) {i : Nat} (h : i < es.length) : lk (marksOf (midOf es i)) es[i].k = some es[i].v :=
  lk_some (by rw [marks_fst, mid_keys]; exact ho.ks) (List.mem_map.2 ⟨es[i], by rw [mid_at h]; exact List.mem_append_right _ (List.mem_cons_self ..), rfl⟩)
theorem mid_ins {es : List Mk} {now : Int} (ho : FOk es now) {i : Nat} (h : i < es.length) : (ins (marksOf (midOf es i)) es[i].k (halfM es[i]).v).Perm (marksOf (midOf es (i + 1))) := by
  have hk := ho.ks
  rw [← mid_keys es i, mid_at h, List.map_append, List.map_cons, List.nodup_append] at hk
  obtain ⟨h1, h2, h3⟩ := hk
  rw [List.nodup_cons] at h2
  unfold ins
  rw [marks_era]
  have hl : lessM (midOf es i) es[i].k = (es.take i).map halfM ++ es.drop (i + 1) := by
    rw [mid_at h]
    unfold lessM
    have f1 : ((es.take i).map halfM).filter (fun m => !decide (m.k = es[i].k)) = (es.take i).map halfM := List.filter_eq_self.2 fun m hm => by
      have : m.k ≠ es[i].k := fun e => h3 _ (List.mem_map.2 ⟨m, hm, rfl⟩) _ (List.mem_cons_self ..) e
      simpa using this
    have f2 : (es.drop (i + 1)).filter (fun m => !decide (m.k = es[i].k)) = es.drop (i + 1) := List.filter_eq_self.2 fun m hm => by
      have : m.k ≠ es[i].k := fun e => h2.1 (List.mem_map.2 ⟨m, hm, e⟩)
      simpa using this
    rw [List.filter_append, List.filter_cons_of_neg (by simp), f1, f2]
  rw [hl, mid_succ h]
  unfold marksOf
  rw [List.map_append, List.map_append, List.map_cons]
  exact List.perm_middle.symm
theorem mid_rows {es : List Mk} {now : Int} (ho : FOk es now) {i : Nat} (h : i < es.length) :
    updR (rowOf ((es.take i).map halfM)) (halfM es[i]).c (dropK (rowOf ((es.take i).map halfM) (halfM es[i]).c) es[i].k ++ [es[i].k]) = rowOf ((es.take (i + 1)).map halfM) := by
  have hk := ho.ks
  rw [← mid_keys es i, mid_at h, List.map_append, List.map_cons, List.nodup_append] at hk
  obtain ⟨h1, h2, h3⟩ := hk
  have hl : lessM ((es.take i).map halfM) es[i].k = (es.take i).map halfM := by
    unfold lessM
    refine List.filter_eq_self.2 fun m hm => ?_
    have : m.k ≠ es[i].k := fun e => h3 _ (List.mem_map.2 ⟨m, hm, rfl⟩) _ (List.mem_cons_self ..) e
    simpa using this
  have := touch_rows (es := (es.take i).map halfM) (key := es[i].k) (c := (halfM es[i]).c) (t := es[i].t)
  rw [hl] at this
  rw [this, List.take_succ_eq_append_getElem h, List.map_append]
  rfl
theorem lessN_succ {es : List Mk} {i : Nat} (h : i < es.length) : lessN (es.take (i + 1)) = lessN (es.take i) + if 1 < es[i].c then 1 else 0 := by
  unfold lessN
  rw [List.take_succ_eq_append_getElem h, List.filter_append, List.length_append]
  by_cases e : 1 < es[i].c <;> simp [e]
theorem lessN_le (es : List Mk) : lessN es ≤ es.length := List.length_filter_le _ _
open Go.Sort in
/-- What the sort leaves. -/
theorem halve_order {es : List Mk} {now : Int} (ho : FOk es now) {lt : ByteArray → ByteArray → Bool} (hlt : ∀ x y, lt x y = decide (whenOf es x < whenOf es y)) {d' : Array ByteArray}
    (hp : d'.toList.Perm (allOf es)) (hs : SortedIn lt 0 d'.size d') : d'.toList = es.map (·.k) := by
  refine sorted_keys ho (hp.trans (all_perm ho)) (List.pairwise_iff_getElem.2 fun i j hi hj hij => ?_)
  have hi' : i < d'.size := by simpa using hi
  have hj' : j < d'.size := by simpa using hj
  have := hs i j (Nat.zero_le _) hij hj'
  rw [getElem!_pos d' i hi', getElem!_pos d' j hj', hlt, decide_eq_false_iff_not] at this
  rw [Array.getElem_toList, Array.getElem_toList]; omega
end Go.Sl
