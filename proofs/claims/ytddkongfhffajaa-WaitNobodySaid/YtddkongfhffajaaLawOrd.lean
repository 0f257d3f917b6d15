/-
  The statements of layer 12: what they call that is the document's, in plain words.
-/
import Derived.Test.YtddkongfhffajaaOrdW
import Derived.Test.YtddkongfhffajaaKd
import Derived.Test.YtddkongfhffajaaPOrderPlaysx1
namespace Go.Sl
open Go.RowKit Go.Proofs Go.Proofs.YtddkongfhffajaaW.PrintWords Go.Proofs.Ytddkongfhffajaa.POrderPlays
set_option linter.unusedVariables false
set_option maxRecDepth 100000

theorem toList_inj {a b : ByteArray} : a.toList = b.toList ↔ a = b := by
  refine ⟨fun h => ?_, fun h => by rw [h]⟩
  rw [ByteArray.toList_eq, ByteArray.toList_eq] at h
  cases a; cases b
  simp only [ByteArray.mk.injEq]
  exact Array.toList_inj.1 h
theorem rdOf_at {α : Type} (d : α) (xs : List α) (i : Nat) (h : i < xs.length) : rdOf d xs (i : Int) = xs[i] := by
  unfold rdOf
  simp [List.getD_eq_getElem?_getD, h]
theorem wrap_up {i n : Nat} (h : i < n) (hn : n ≤ 9223372036854775807) : wrap64 ((i : Int) + 1) = ((i + 1 : Nat) : Int) := by
  unfold wrap64; omega

/-- 'T.Same' answers whether two lists are one. -/
theorem same_l0 {xs ys : List ByteArray} (hl : xs.length = ys.length) (hs : xs.length ≤ 9223372036854775807) : ∀ (d k : Nat) (i : Nat), xs.length - i = d → d < k → i ≤ xs.length →
    mewsref02_Same.l0 k xs ys i = some (decide (xs.drop i = ys.drop i)) := by
  intro d
  induction d with
  | zero =>
    intro k i hd hk hi
    obtain ⟨k, rfl⟩ : ∃ m, k = m + 1 := ⟨k - 1, by omega⟩
    simp only [mewsref02_Same.l0]
    rw [if_neg (by omega), List.drop_of_length_le (by omega), List.drop_of_length_le (by omega)]
    simp
  | succ d ih =>
    intro k i hd hk hi
    obtain ⟨k, rfl⟩ : ∃ m, k = m + 1 := ⟨k - 1, by omega⟩
    have h1 : i < xs.length := by omega
    have h2 : i < ys.length := by omega
    simp only [mewsref02_Same.l0]
    rw [if_pos (by omega), if_pos (by omega), if_pos (by omega), rdOf_at _ _ _ h1, rdOf_at _ _ _ h2, wrap_up h1 hs, ih k (i + 1) (by omega) (by omega) (by omega), List.drop_eq_getElem_cons h1, List.drop_eq_getElem_cons h2]
    by_cases e : xs[i] = ys[i]
    · rw [if_pos (toList_inj.2 e)]
      congr 1
      apply decide_eq_decide.2
      rw [List.cons.injEq]
      exact ⟨fun h => ⟨e, h⟩, fun h => h.2⟩
    · rw [if_neg (fun h => e (toList_inj.1 h))]
      congr 1
      refine (decide_eq_false ?_).symm
      rw [List.cons.injEq]
      exact fun h => e h.1
theorem same_f (xs ys : List ByteArray) (hs : xs.length ≤ 9223372036854775807) : mewsref02_Same.f (xs.length + 1) xs ys = some (decide (xs = ys)) := by
  unfold mewsref02_Same.f
  by_cases hl : xs.length = ys.length
  · rw [if_pos (by omega)]
    have := same_l0 hl hs xs.length (xs.length + 1) 0 (by omega) (by omega) (by omega)
    simpa using this
  · rw [if_neg (by omega)]
    have : xs ≠ ys := fun e => hl (by rw [e])
    simp [this]

/-- 'R.Drop'. -/
theorem drop_l0 {xs : List ByteArray} {key : ByteArray} (hs : xs.length ≤ 1000000000) : ∀ (d k : Nat) (i : Nat) (acc : List ByteArray), xs.length - i = d → d < k → i ≤ xs.length → acc.length ≤ i →
    mewsref12_Drop.l0 k xs key acc i = some (acc ++ dropK (xs.drop i) key, decide ((acc ++ dropK (xs.drop i) key).length < xs.length)) := by
  intro d
  induction d with
  | zero =>
    intro k i acc hd hk hi ha
    obtain ⟨k, rfl⟩ : ∃ m, k = m + 1 := ⟨k - 1, by omega⟩
    simp only [mewsref12_Drop.l0]
    rw [if_neg (by omega), List.drop_of_length_le (by omega)]
    simp [dropK]
  | succ d ih =>
    intro k i acc hd hk hi ha
    obtain ⟨k, rfl⟩ : ∃ m, k = m + 1 := ⟨k - 1, by omega⟩
    have h1 : i < xs.length := by omega
    simp only [mewsref12_Drop.l0]
    rw [if_pos (by omega), if_pos (by omega), rdOf_at _ _ _ h1, wrap_up h1 (by omega), List.drop_eq_getElem_cons h1]
    unfold dropK
    by_cases e : xs[i] = key
    · rw [if_pos (toList_inj.2 e), ih k (i + 1) acc (by omega) (by omega) (by omega) (by omega), List.filter_cons_of_neg (by simp [e])]
      rfl
    · rw [if_neg (fun h => e (toList_inj.1 h)), if_pos (by omega), ih k (i + 1) (acc ++ [xs[i]]) (by omega) (by omega) (by omega) (by simp; omega), List.filter_cons_of_pos (by simp [e])]
      simp only [dropK, List.append_assoc, List.singleton_append]
theorem dropK_length (xs : List ByteArray) (key : ByteArray) : (dropK xs key).length ≤ xs.length := List.length_filter_le _ _
theorem dropK_lt (xs : List ByteArray) (key : ByteArray) : decide ((dropK xs key).length < xs.length) = hasK xs key := by
  unfold dropK hasK
  induction xs with
  | nil => rfl
  | cons x xs ih =>
    have hle := List.length_filter_le (fun k => !decide (k = key)) xs
    by_cases e : x = key
    · rw [List.filter_cons_of_neg (by simp [e])]
      simp [e]; omega
    · rw [List.filter_cons_of_pos (by simp [e])]
      simp only [List.length_cons, Nat.add_lt_add_iff_right, List.any_cons, e, decide_false, Bool.false_or]
      exact ih
theorem drop_f {xs : List ByteArray} {key : ByteArray} (hs : xs.length ≤ 1000000000) : mewsref12_Drop.f (xs.length + 1) xs key = some (dropK xs key, hasK xs key) := by
  unfold mewsref12_Drop.f
  have := drop_l0 (key := key) hs xs.length (xs.length + 1) 0 [] (by omega) (by omega) (by omega) (by simp)
  rw [List.drop_zero, List.nil_append] at this
  rw [← dropK_lt]
  exact this
theorem touch_f {xs : List ByteArray} {key : ByteArray} (hs : xs.length ≤ 1000000000) : mewsref12_Touch.f (xs.length + 1) xs key = some (dropK xs key ++ [key], !hasK xs key) := by
  unfold mewsref12_Touch.f
  rw [drop_f hs]
  have := dropK_length xs key
  simp only [Option.bind_some]
  rw [if_pos (by omega)]
theorem has_l0 {xs : List ByteArray} {key : ByteArray} (hs : xs.length ≤ 1000000000) : ∀ (d k : Nat) (i : Nat), xs.length - i = d → d < k → i ≤ xs.length → mewsref12_Has.l0 k xs key i = some (hasK (xs.drop i) key) := by
  intro d
  induction d with
  | zero =>
    intro k i hd hk hi
    obtain ⟨k, rfl⟩ : ∃ m, k = m + 1 := ⟨k - 1, by omega⟩
    simp only [mewsref12_Has.l0]
    rw [if_neg (by omega), List.drop_of_length_le (by omega)]
    rfl
  | succ d ih =>
    intro k i hd hk hi
    obtain ⟨k, rfl⟩ : ∃ m, k = m + 1 := ⟨k - 1, by omega⟩
    have h1 : i < xs.length := by omega
    simp only [mewsref12_Has.l0]
    rw [if_pos (by omega), if_pos (by omega), rdOf_at _ _ _ h1, wrap_up h1 (by omega), List.drop_eq_getElem_cons h1, ih k (i + 1) (by omega) (by omega) (by omega)]
    unfold hasK
    by_cases e : xs[i] = key
    · rw [if_pos (toList_inj.2 e)]; simp only [List.any_cons, e, decide_true, Bool.true_or]
    · rw [if_neg (fun h => e (toList_inj.1 h))]; simp only [List.any_cons, e, decide_false, Bool.false_or]
theorem has_f {xs : List ByteArray} {key : ByteArray} (hs : xs.length ≤ 1000000000) : mewsref12_Has.f (xs.length + 1) xs key = some (hasK xs key) := by
  unfold mewsref12_Has.f
  have := has_l0 (key := key) hs xs.length (xs.length + 1) 0 (by omega) (by omega) (by omega)
  simpa using this
/-- 'far': too many, or one too long. -/
def farB (l : List S29) : Bool := l.any (fun o => decide (200 < o.f1.size)) || decide (300 < l.length)
theorem far_l0 {l : List S29} (hs : l.length ≤ 9223372036854775807) : ∀ (d k : Nat) (i : Nat), l.length - i = d → d < k → i ≤ l.length →
    mewslaw12_far.l0 k l l (l.length : Int) i = some ((l.drop i).any (fun o => decide (200 < o.f1.size)) || decide (300 < l.length)) := by
  intro d
  induction d with
  | zero =>
    intro k i hd hk hi
    obtain ⟨k, rfl⟩ : ∃ m, k = m + 1 := ⟨k - 1, by omega⟩
    simp only [mewslaw12_far.l0]
    rw [if_neg (by omega), List.drop_of_length_le (by omega)]
    have : decide ((l.length : Int) > 300) = decide (300 < l.length) := by apply decide_eq_decide.2; omega
    simp [this]
  | succ d ih =>
    intro k i hd hk hi
    obtain ⟨k, rfl⟩ : ∃ m, k = m + 1 := ⟨k - 1, by omega⟩
    have h1 : i < l.length := by omega
    have e1 : rd_T29 l (i : Int) = l[i] := by unfold rd_T29; simp [List.getD_eq_getElem?_getD, h1]
    simp only [mewslaw12_far.l0]
    rw [if_pos (by omega), if_pos (by omega), if_pos (by omega), e1, wrap_up h1 hs, List.drop_eq_getElem_cons h1, ih k (i + 1) (by omega) (by omega) (by omega)]
    by_cases e : 200 < l[i].f1.size
    · rw [if_pos (by omega)]; simp only [List.any_cons, e, decide_true, Bool.true_or]
    · rw [if_neg (by omega)]; simp only [List.any_cons, e, decide_false, Bool.false_or]
theorem far_f {l : List S29} (hs : l.length ≤ 9223372036854775807) : mewslaw12_far.f (l.length + 1) l = some (farB l) := by
  unfold mewslaw12_far.f farB
  have := far_l0 hs l.length (l.length + 1) 0 (by omega) (by omega) (by omega)
  simpa using this
end Go.Sl
