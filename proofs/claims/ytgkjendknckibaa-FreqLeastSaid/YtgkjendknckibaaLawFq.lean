/-
  The statements of layer 13: what they call that is the document's, in plain words.
-/
import Derived.Test.YtgkjendknckibaaFqZ
import Derived.Test.YtgkjendknckibaaKd
import Derived.Test.YtgkjendknckibaaPFreqx1
namespace Go.Sl
open Go.RowKit Go.Proofs Go.Proofs.YtgkjendknckibaaW.PrintWords Go.Proofs.Ytgkjendknckibaa.PFreq
set_option linter.unusedVariables false
set_option maxRecDepth 100000

theorem toList_inj {a b : ByteArray} : a.toList = b.toList ↔ a = b := by
  refine ⟨fun h => ?_, fun h => by rw [h]⟩
  rw [ByteArray.toList_eq, ByteArray.toList_eq] at h
  cases a; cases b
  simp only [ByteArray.mk.injEq]
  exact Array.toList_inj.1 h
theorem rdOf_at {α : Type} (d : α) (xs : List α) (i : Nat) (h : i < xs.length) : rdOf d xs (i : Int) = xs[i] := by
  unfold rdOf
  simp [List.getD_eq_getElem?_getD, h]
theorem wrap_up {i n : Nat} (h : i < n) (hn : n ≤ 9223372036854775807) : wrap64 ((i : Int) + 1) = ((i + 1 : Nat) : Int) := by
  unfold wrap64; omega

/-- 'T.Same' answers whether two lists are one. -/
theorem same_l0 {xs ys : List ByteArray} (hl : xs.length = ys.length) (hs : xs.length ≤ 9223372036854775807) : ∀ (d k : Nat) (i : Nat), xs.length - i = d → d < k → i ≤ xs.length →
    mewsref02_Same.l0 k xs ys i = some (decide (xs.drop i = ys.drop i)) := by
  intro d
  induction d with
  | zero =>
    intro k i hd hk hi
    obtain ⟨k, rfl⟩ : ∃ m, k = m + 1 := ⟨k - 1, by omega⟩
    simp only [mewsref02_Same.l0]
    rw [if_neg (by omega), List.drop_of_length_le (by omega), List.drop_of_length_le (by omega)]
    simp
  | succ d ih =>
    intro k i hd hk hi
    obtain ⟨k, rfl⟩ : ∃ m, k = m + 1 := ⟨k - 1, by omega⟩
    have h1 : i < xs.length := by omega
    have h2 : i < ys.length := by omega
    simp only [mewsref02_Same.l0]
    rw [if_pos (by omega), if_pos (by omega), if_pos (by omega), rdOf_at _ _ _ h1, rdOf_at _ _ _ h2, wrap_up h1 hs, ih k (i + 1) (by omega) (by omega) (by omega), List.drop_eq_getElem_cons h1, List.drop_eq_getElem_cons h2]
    by_cases e : xs[i] = ys[i]
    · rw [if_pos (toList_inj.2 e)]
      congr 1
      apply decide_eq_decide.2
      rw [List.cons.injEq]
      exact ⟨fun h => ⟨e, h⟩, fun h => h.2⟩
    · rw [if_neg (fun h => e (toList_inj.1 h))]
      congr 1
      refine (decide_eq_false ?_).symm
      rw [List.cons.injEq]
      exact fun h => e h.1
theorem same_f (xs ys : List ByteArray) (hs : xs.length ≤ 9223372036854775807) : mewsref02_Same.f (xs.length + 1) xs ys = some (decide (xs = ys)) := by
  unfold mewsref02_Same.f
  by_cases hl : xs.length = ys.length
  · rw [if_pos (by omega)]
    have := same_l0 hl hs xs.length (xs.length + 1) 0 (by omega) (by omega) (by omega)
    simpa using this
  · rw [if_neg (by omega)]
    have : xs ≠ ys := fun e => hl (by rw [e])
    simp [this]
/-- 'far': too many, or one too long. -/
def farB (l : List S64) : Bool := l.any (fun o => decide (200 < o.f1.size)) || decide (400 < l.length)
theorem far_l0 {l : List S64} (hs : l.length ≤ 9223372036854775807) : ∀ (d k : Nat) (i : Nat), l.length - i = d → d < k → i ≤ l.length →
    mewslaw13_far.l0 k l l (l.length : Int) i = some ((l.drop i).any (fun o => decide (200 < o.f1.size)) || decide (400 < l.length)) := by
  intro d
  induction d with
  | zero =>
    intro k i hd hk hi
    obtain ⟨k, rfl⟩ : ∃ m, k = m + 1 := ⟨k - 1, by omega⟩
    simp only [mewslaw13_far.l0]
    rw [if_neg (by omega), List.drop_of_length_le (by omega)]
    have : decide ((l.length : Int) > 400) = decide (400 < l.length) := by apply decide_eq_decide.2; omega
    simp [this]
  | succ d ih =>
    intro k i hd hk hi
    obtain ⟨k, rfl⟩ : ∃ m, k = m + 1 := ⟨k - 1, by omega⟩
    have h1 : i < l.length := by omega
    have e1 : rd_T64 l (i : Int) = l[i] := by unfold rd_T64; simp [List.getD_eq_getElem?_getD, h1]
    simp only [mewslaw13_far.l0]
    rw [if_pos (by omega), if_pos (by omega), if_pos (by omega), e1, wrap_up h1 hs, List.drop_eq_getElem_cons h1, ih k (i + 1) (by omega) (by omega) (by omega)]
    by_cases e : 200 < l[i].f1.size
    · rw [if_pos (by omega)]; simp only [List.any_cons, e, decide_true, Bool.true_or]
    · rw [if_neg (by omega)]; simp only [List.any_cons, e, decide_false, Bool.false_or]
theorem far_f {l : List S64} (hs : l.length ≤ 9223372036854775807) : mewslaw13_far.f (l.length + 1) l = some (farB l) := by
  unfold mewslaw13_far.f farB
  have := far_l0 hs l.length (l.length + 1) 0 (by omega) (by omega) (by omega)
  simpa using this

/-! ### the reference's list -/
abbrev One := S93
def oneOf (m : Mk) : One := ⟨m.k, m.c⟩
def rl (es : List Mk) : List One := es.map oneOf
theorem rl_length (es : List Mk) : (rl es).length = es.length := by simp [rl]
theorem rd_at {xs : List One} {i : Nat} (h : i < xs.length) : rd_T93 xs (i : Int) = xs[i] := by unfold rd_T93; simp [List.getD_eq_getElem?_getD, h]
def lessR (xs : List One) (key : ByteArray) : List One := xs.filter fun x => !decide (x.f0 = key)
def cntR (xs : List One) (key : ByteArray) : Int := ((xs.find? fun x => decide (x.f0 = key)).map (·.f1)).getD 0
theorem lessR_length (xs : List One) (key : ByteArray) : (lessR xs key).length ≤ xs.length := List.length_filter_le _ _
theorem rdrop_l0 {xs : List One} {key : ByteArray} (hs : xs.length ≤ 1000000000) : ∀ (d k : Nat) (i : Nat) (acc : List One), xs.length - i = d → d < k → i ≤ xs.length → acc.length ≤ i →
    mewsref13_Drop.l0 k xs key acc i = some (acc ++ lessR (xs.drop i) key, decide ((acc ++ lessR (xs.drop i) key).length < xs.length)) := by
  intro d
  induction d with
  | zero =>
    intro k i acc hd hk hi ha
    obtain ⟨k, rfl⟩ : ∃ m, k = m + 1 := ⟨k - 1, by omega⟩
    simp only [mewsref13_Drop.l0]
    rw [if_neg (by omega), List.drop_of_length_le (by omega)]
    simp [lessR]
  | succ d ih =>
    intro k i acc hd hk hi ha
    obtain ⟨k, rfl⟩ : ∃ m, k = m + 1 := ⟨k - 1, by omega⟩
    have h1 : i < xs.length := by omega
    simp only [mewsref13_Drop.l0]
    rw [if_pos (by omega), if_pos (by omega), rd_at h1, wrap_up h1 (by omega), List.drop_eq_getElem_cons h1]
    unfold lessR
    by_cases e : xs[i].f0 = key
    · rw [if_pos (toList_inj.2 e), ih k (i + 1) acc (by omega) (by omega) (by omega) (by omega), List.filter_cons_of_neg (by simp [e])]
      rfl
    · rw [if_neg (fun h => e (toList_inj.1 h)), if_pos (by omega), ih k (i + 1) (acc ++ [xs[i]]) (by omega) (by omega) (by omega) (by simp; omega), List.filter_cons_of_pos (by simp [e])]
      simp only [lessR, List.append_assoc, List.singleton_append]
theorem rl_less (es : List Mk) (key : ByteArray) : lessR (rl es) key = rl (lessM es key) := by
  unfold lessR rl lessM
  rw [List.filter_map]
  rfl
theorem rl_less_lt (es : List Mk) (key : ByteArray) : decide ((lessM es key).length < es.length) = (findM es key).isSome := by
  unfold lessM findM
  induction es with
  | nil => rfl
  | cons m es ih =>
    have hle := List.length_filter_le (fun m : Mk => !decide (m.k = key)) es
    by_cases e : m.k = key
    · rw [List.filter_cons_of_neg (by simp [e]), List.find?_cons_of_pos (by simp [e])]
      simp; omega
    · rw [List.filter_cons_of_pos (by simp [e]), List.find?_cons_of_neg (by simp [e])]
      simpa using ih
theorem rdrop_f {es : List Mk} {key : ByteArray} (hs : es.length ≤ 1000000000) : mewsref13_Drop.f ((rl es).length + 1) (rl es) key = some (rl (lessM es key), (findM es key).isSome) := by
  unfold mewsref13_Drop.f
  have := rdrop_l0 (key := key) (xs := rl es) (by rw [rl_length]; exact hs) (rl es).length ((rl es).length + 1) 0 [] (by omega) (by omega) (by omega) (by simp)
  rw [List.drop_zero, List.nil_append, rl_less, rl_length, rl_length, rl_less_lt] at this
  rw [rl_length]
  exact this
theorem rcnt_l0 {xs : List One} {key : ByteArray} (hs : xs.length ≤ 1000000000) : ∀ (d k : Nat) (i : Nat), xs.length - i = d → d < k → i ≤ xs.length → mewsref13_Count.l0 k xs key i = some (cntR (xs.drop i) key) := by
  intro d
  induction d with
  | zero =>
    intro k i hd hk hi
    obtain ⟨k, rfl⟩ : ∃ m, k = m + 1 := ⟨k - 1, by omega⟩
    simp only [mewsref13_Count.l0]
    rw [if_neg (by omega), List.drop_of_length_le (by omega)]
    rfl
  | succ d ih =>
    intro k i hd hk hi
    obtain ⟨k, rfl⟩ : ∃ m, k = m + 1 := ⟨k - 1, by omega⟩
    have h1 : i < xs.length := by omega
    simp only [mewsref13_Count.l0]
    rw [if_pos (by omega), if_pos (by omega), rd_at h1, wrap_up h1 (by omega), List.drop_eq_getElem_cons h1, ih k (i + 1) (by omega) (by omega) (by omega)]
    unfold cntR
    by_cases e : xs[i].f0 = key
    · rw [if_pos (toList_inj.2 e), List.find?_cons_of_pos (by simp [e])]; rfl
    · rw [if_neg (fun h => e (toList_inj.1 h)), List.find?_cons_of_neg (by simp [e])]
theorem rl_cnt (es : List Mk) (key : ByteArray) : cntR (rl es) key = cntOf es key := by
  unfold cntR rl cntOf findM
  rw [List.find?_map, Option.map_map]
  rfl
theorem rcnt_f {es : List Mk} {key : ByteArray} (hs : es.length ≤ 1000000000) : mewsref13_Count.f ((rl es).length + 1) (rl es) key = some (cntOf es key) := by
  unfold mewsref13_Count.f
  have := rcnt_l0 (key := key) (xs := rl es) (by rw [rl_length]; exact hs) (rl es).length ((rl es).length + 1) 0 (by omega) (by omega) (by omega)
  rw [List.drop_zero, rl_cnt] at this
  exact this
theorem lessM_length (es : List Mk) (key : ByteArray) : (lessM es key).length ≤ es.length := List.length_filter_le _ _
theorem rtouch_f {es : List Mk} {key : ByteArray} {t : Int} (hs : es.length ≤ 1000000000) (h0 : 0 ≤ cntOf es key) (h1 : cntOf es key ≤ 255) :
    mewsref13_Touch.f ((rl es).length + 1) (rl es) key = some (rl (touchM es key t), upC (cntOf es key)) := by
  unfold mewsref13_Touch.f
  have hl := lessM_length es key
  have hw : wrap64 (cntOf es key + 1) = cntOf es key + 1 := by unfold wrap64; omega
  rw [rcnt_f hs, Option.bind_some, rdrop_f hs, hw]
  unfold touchM upC
  by_cases e : 255 < cntOf es key + 1
  · rw [if_pos e, if_pos e, Option.bind_some]
    simp only
    rw [if_pos (by rw [rl_length]; omega)]
    unfold rl
    rw [List.map_append]; rfl
  · rw [if_neg e, if_neg e, Option.bind_some]
    simp only
    rw [if_pos (by rw [rl_length]; omega)]
    unfold rl
    rw [List.map_append]; rfl

/-- 'R.All': count by count. -/
def rowR (xs : List One) : RF := fun n => (xs.filter fun x => decide (x.f1 = n)).map (·.f0)
theorem rl_row (es : List Mk) : rowR (rl es) = rowOf es := by
  funext n
  unfold rowR rl rowOf
  rw [List.filter_map, List.map_map]
  rfl
theorem rowR_length (xs : List One) (n : Int) : (rowR xs n).length ≤ xs.length := by
  unfold rowR; rw [List.length_map]; exact List.length_filter_le _ _
theorem upR_length (xs : List One) : ∀ n, (upTo (rowR xs) n).length ≤ n * xs.length
  | 0 => by simp [upTo]
  | n + 1 => by
    have := upR_length xs n
    have := rowR_length xs (n : Int)
    rw [upTo, List.length_append, Nat.add_mul]; omega
theorem rall_l1 {xs : List One} (hs : xs.length ≤ 1000000) {n : Nat} (hn : n ≤ 255) {F : List ByteArray} {K : Nat} (hF : ∀ k, K ≤ k → mewsref13_All.l0 k xs (upTo (rowR xs) (n + 1)) ((n + 1 : Nat) : Int) = some F) :
    ∀ (d k : Nat) (i : Nat) (acc : List ByteArray), xs.length - i = d → K + d + 1 ≤ k → i ≤ xs.length → acc.length ≤ n * xs.length + i → acc ++ rowR (xs.drop i) n = upTo (rowR xs) (n + 1) → mewsref13_All.l1 k xs acc n i = some F := by
  intro d
  induction d with
  | zero =>
    intro k i acc hd hk hi ha he
    obtain ⟨k, rfl⟩ : ∃ m, k = m + 1 := ⟨k - 1, by omega⟩
    simp only [mewsref13_All.l1]
    rw [if_neg (by omega)]
    rw [List.drop_of_length_le (by omega)] at he
    have hw : wrap64 ((n : Int) + 1) = ((n + 1 : Nat) : Int) := by unfold wrap64; omega
    rw [hw, show acc = upTo (rowR xs) (n + 1) from by rw [← he]; simp [rowR]]
    exact hF k (by omega)
  | succ d ih =>
    intro k i acc hd hk hi ha he
    obtain ⟨k, rfl⟩ : ∃ m, k = m + 1 := ⟨k - 1, by omega⟩
    have h1 : i < xs.length := by omega
    have hb : n * xs.length ≤ 255 * 1000000 := Nat.mul_le_mul hn hs
    simp only [mewsref13_All.l1]
    rw [if_pos (by omega), if_pos (by omega), rd_at h1, wrap_up h1 (by omega)]
    rw [List.drop_eq_getElem_cons h1] at he
    unfold rowR at he
    by_cases e : xs[i].f1 = (n : Int)
    · rw [if_pos e, if_pos (by omega)]
      rw [List.filter_cons_of_pos (by simp [e])] at he
      exact ih k (i + 1) _ (by omega) (by omega) (by omega) (by simp; omega) (by unfold rowR; rw [← he]; simp)
    · rw [if_neg e]
      rw [List.filter_cons_of_neg (by simp [e])] at he
      exact ih k (i + 1) _ (by omega) (by omega) (by omega) (by omega) he
theorem rall_l0 {xs : List One} (hs : xs.length ≤ 1000000) : ∀ (d n : Nat), 256 - n = d → n ≤ 256 → ∀ k, d * (xs.length + 2) + 1 ≤ k → mewsref13_All.l0 k xs (upTo (rowR xs) n) (n : Int) = some (upTo (rowR xs) 256) := by
  intro d
  induction d with
  | zero =>
    intro n hd hn k hk
    obtain ⟨k, rfl⟩ : ∃ m, k = m + 1 := ⟨k - 1, by omega⟩
    have : n = 256 := by omega
    subst this
    simp only [mewsref13_All.l0]
    rw [if_neg (by omega)]
  | succ d ih =>
    intro n hd hn k hk
    obtain ⟨k, rfl⟩ : ∃ m, k = m + 1 := ⟨k - 1, by omega⟩
    have hd1 : (d + 1) * (xs.length + 2) = d * (xs.length + 2) + (xs.length + 2) := by rw [Nat.add_mul, Nat.one_mul]
    have hu := upR_length xs n
    simp only [mewsref13_All.l0]
    rw [if_pos (by omega)]
    exact rall_l1 hs (by omega) (K := d * (xs.length + 2) + 1) (ih (n + 1) (by omega) (by omega)) xs.length k 0 _ (by omega) (by omega) (by omega) (by omega) (by rw [List.drop_zero]; rfl)
theorem rall_f {es : List Mk} {now : Int} (ho : FOk es now) : mewsref13_All.f (255 * (es.length + 2) + 1) (rl es) = some (allOf es) := by
  have hs : (rl es).length ≤ 1000000 := by rw [rl_length]; have := ho.len; have := ho.n1; omega
  have := rall_l0 hs 255 1 (by omega) (by omega) (255 * (es.length + 2) + 1) (by rw [rl_length]; omega)
  unfold mewsref13_All.f
  rw [rl_row] at this
  have h0 : upTo (rowOf es) 1 = [] := by
    have : es.filter (fun m : Mk => decide (m.c = ((0 : Nat) : Int))) = [] := List.filter_eq_nil_iff.2 fun m hm => by have := (ho.pos m hm).1; simp; omega
    simp only [upTo, rowOf, this]; rfl
  rw [h0] at this
  exact this
end Go.Sl
