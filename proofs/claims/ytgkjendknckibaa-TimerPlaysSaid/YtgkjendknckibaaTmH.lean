/-
  Heaps, in plain words: what up and down bring about.
-/
import Derived.Test.YtgkjendknckibaaTm
import Derived.Sort.LotA
import Derived.Sort.Walk0
namespace Go.Sl
open Go.Proofs.Ytgkjendknckibaa.PTim Go.Sort
set_option linter.unusedVariables false
set_option linter.unusedSimpArgs false

theorem bl_eq (x y : List UInt8) : Op.bytesLess x y = decide (x < y) := Go.Proofs.bytesLess_eq x y
theorem ltT_iff (a b : Tm) : ltT a b = true ↔ a.f1 < b.f1 ∨ (a.f1 = b.f1 ∧ a.f0.toList < b.f0.toList) := by
  unfold ltT
  rw [bl_eq]
  simp
theorem ltT_no (a b : Tm) : ltT a b = false ↔ b.f1 < a.f1 ∨ (a.f1 = b.f1 ∧ ¬ a.f0.toList < b.f0.toList) := by
  rw [← Bool.not_eq_true, ltT_iff]
  constructor
  · intro h
    by_cases e : a.f1 = b.f1
    · exact .inr ⟨e, fun h2 => h (.inr ⟨e, h2⟩)⟩
    · exact .inl (by have := fun h2 => h (.inl h2); omega)
  · rintro (h | ⟨h1, h2⟩) (h3 | ⟨h3, h4⟩)
    · omega
    · omega
    · omega
    · exact h2 h4
theorem ltT_irrefl (a : Tm) : ltT a a = false := (ltT_no a a).2 (.inr ⟨rfl, List.lt_irrefl _⟩)
theorem ltT_trans {a b c : Tm} (h1 : ltT a b = true) (h2 : ltT b c = true) : ltT a c = true := by
  rw [ltT_iff] at *
  rcases h1 with h1 | ⟨h1, h3⟩ <;> rcases h2 with h2 | ⟨h2, h4⟩
  · left; omega
  · left; omega
  · left; omega
  · right; exact ⟨by omega, List.lt_trans h3 h4⟩
/-- 'a is not ahead of b': transitive. -/
theorem le_trans' {a b c : Tm} (h1 : ltT a b = false) (h2 : ltT b c = false) : ltT a c = false := by
  rw [ltT_no] at *
  rcases h1 with h1 | ⟨h1, h3⟩ <;> rcases h2 with h2 | ⟨h2, h4⟩
  · left; omega
  · left; omega
  · left; omega
  · right; exact ⟨by omega, List.not_lt.2 (List.le_trans (List.not_lt.1 h4) (List.not_lt.1 h3))⟩
theorem lt_asymm' {a b : Tm} (h : ltT a b = true) : ltT b a = false := by
  cases h2 : ltT b a with
  | false => rfl
  | true => have := ltT_trans h h2; rw [ltT_irrefl] at this; cases this
theorem not_of_lt {a x b : Tm} (h1 : ltT x b = true) (h2 : ltT a b = false) : ltT a x = false := by
  cases h : ltT a x with
  | false => rfl
  | true => have := ltT_trans h h1; rw [h2] at this; cases this
theorem ltT_total {a b : Tm} (h1 : ltT a b = false) (h2 : ltT b a = false) : a = b := by
  rw [ltT_no] at *
  have e1 : a.f1 = b.f1 := by rcases h1 with h | ⟨h, _⟩ <;> rcases h2 with h' | ⟨h', _⟩ <;> omega
  have e2 : a.f0.toList = b.f0.toList := by
    rcases h1 with h | ⟨_, h⟩
    · omega
    · rcases h2 with h' | ⟨_, h'⟩
      · omega
      · exact List.le_antisymm (List.not_lt.1 h') (List.not_lt.1 h)
  have e3 : a.f0 = b.f0 := by
    rw [ByteArray.toList_eq, ByteArray.toList_eq] at e2
    cases ha : a.f0; cases hb : b.f0
    rw [ha, hb] at e2
    simp only [ByteArray.mk.injEq]
    exact Array.toList_inj.1 e2
  cases a; cases b
  simp only at e1 e3
  rw [e1, e3]

/-! ### heaps -/
abbrev ga (hs : List Tm) (j : Nat) : Tm := hs.getD j default
abbrev par (j : Nat) : Nat := (j - 1) / 2
theorem ga_sw {hs : List Tm} {i k : Nat} (hi : i < hs.length) (hk : k < hs.length) (j : Nat) : ga (sw hs i k) j = if j = k then ga hs i else if j = i then ga hs k else ga hs j := by
  unfold ga sw
  simp only [List.getD_eq_getElem?_getD, List.getElem?_set, List.length_set]
  by_cases e : k = j
  · subst e; simp [hk]
  · by_cases e2 : i = j
    · subst e2
      have e' : ¬ i = k := fun h => e h.symm
      simp [e, e', hi]
    · rw [if_neg (show ¬ j = k from fun h => e h.symm), if_neg (show ¬ j = i from fun h => e2 h.symm)]
      simp [e, e2]
/-- No one is ahead of whom it lies below. -/
def Heap (hs : List Tm) : Prop := ∀ j, j < hs.length → 0 < j → ltT (ga hs j) (ga hs (par j)) = false
/-- The same, but for what lies at i, which is passed over. -/
structure HB (hs : List Tm) (i : Nat) : Prop where
  off : ∀ j, j < hs.length → 0 < j → j ≠ i → par j ≠ i → ltT (ga hs j) (ga hs (par j)) = false
  over : ∀ c, c < hs.length → 0 < c → par c = i → 0 < i → ltT (ga hs c) (ga hs (par i)) = false
/-- What lies at i is not ahead of whom it lies below. -/
def PO (hs : List Tm) (i : Nat) : Prop := 0 < i → ltT (ga hs i) (ga hs (par i)) = false
/-- No child of i's is ahead of it. -/
def CO (hs : List Tm) (i : Nat) : Prop := ∀ c, c < hs.length → 0 < c → par c = i → ltT (ga hs c) (ga hs i) = false
theorem HB.heap {hs : List Tm} {i : Nat} (h : HB hs i) (hp : PO hs i) (hc : CO hs i) : Heap hs := by
  intro j hj h0
  by_cases e : j = i
  · subst e; exact hp h0
  · by_cases e2 : par j = i
    · rw [e2]; exact hc j hj h0 e2
    · exact h.off j hj h0 e e2
theorem Heap.but {hs : List Tm} (h : Heap hs) (i : Nat) : HB hs i where
  off j hj h0 _ _ := h j hj h0
  over c hc h0 hp hi := by
    have h1 := h c hc h0
    rw [hp] at h1
    exact le_trans' h1 (h i (by unfold par at hp; omega) hi)
theorem HB.upstep {hs : List Tm} {i : Nat} (h : HB hs i) (hi : i < hs.length) (h0 : 0 < i) (hlt : ltT (ga hs i) (ga hs (par i)) = true) : HB (sw hs i (par i)) (par i) := by
  have hp : par i < hs.length := by unfold par; omega
  have hne : par i ≠ i := by unfold par; omega
  constructor
  · intro j hj hj0 hjp hjp2
    rw [sw_length] at hj
    rw [ga_sw hi hp, ga_sw hi hp, if_neg hjp, if_neg hjp2]
    by_cases e : j = i
    · subst e; exact absurd rfl hjp2
    · rw [if_neg e]
      by_cases e2 : par j = i
      · rw [if_pos e2]; exact h.over j hj hj0 e2 h0
      · rw [if_neg e2]; exact h.off j hj hj0 e e2
  · intro c hc hc0 hcp hp0
    rw [sw_length] at hc
    have hpp : par (par i) ≠ par i := by unfold par at *; omega
    have hpi : par (par i) ≠ i := by unfold par at *; omega
    have hcn : c ≠ par i := by unfold par at *; omega
    rw [ga_sw hi hp, ga_sw hi hp, if_neg hcn, if_neg hpp, if_neg hpi]
    have e1 : ltT (ga hs (par i)) (ga hs (par (par i))) = false := h.off (par i) hp hp0 hne hpi
    by_cases e : c = i
    · rw [if_pos e]; exact e1
    · rw [if_neg e]
      have e2 := h.off c hc hc0 e (by rw [hcp]; exact hne)
      rw [hcp] at e2
      exact le_trans' e2 e1
theorem HB.downstep {hs : List Tm} {i c : Nat} (h : HB hs i) (hi : i < hs.length) (hc : c < hs.length) (hcp : par c = i) (hc0 : 0 < c) (hlt : ltT (ga hs c) (ga hs i) = true) (hbest : ∀ d, d < hs.length → 0 < d → par d = i → ltT (ga hs d) (ga hs c) = false) (hpo : PO hs i) :
    HB (sw hs i c) c ∧ PO (sw hs i c) c := by
  have hne : c ≠ i := by unfold par at hcp; omega
  refine ⟨⟨?_, ?_⟩, ?_⟩
  · intro j hj hj0 hjc hjp
    rw [sw_length] at hj
    rw [ga_sw hi hc, ga_sw hi hc, if_neg hjc, if_neg hjp]
    by_cases e : j = i
    · subst e
      rw [if_pos rfl, if_neg (by unfold par; omega)]
      exact h.over c hc hc0 hcp hj0
    · rw [if_neg e]
      by_cases e2 : par j = i
      · rw [if_pos e2]; exact hbest j hj hj0 e2
      · rw [if_neg e2]; exact h.off j hj hj0 e e2
  · intro d hd hd0 hdp _
    rw [sw_length] at hd
    have hdc : d ≠ c := by unfold par at hdp; omega
    have hdi : d ≠ i := by unfold par at hdp hcp; omega
    rw [ga_sw hi hc, ga_sw hi hc, if_neg hdc, if_neg hdi, hcp, if_neg (fun e => hne e.symm), if_pos rfl]
    have := h.off d hd hd0 hdi (by rw [hdp]; exact hne)
    rw [hdp] at this
    exact this
  · intro _
    rw [ga_sw hi hc, ga_sw hi hc, if_pos rfl, hcp, if_neg (fun e => hne e.symm), if_pos rfl]
    exact lt_asymm' hlt
/-- The first one is not behind any. -/
theorem Heap.first {hs : List Tm} (h : Heap hs) : ∀ n j, j ≤ n → j < hs.length → ltT (ga hs j) (ga hs 0) = false
  | 0, j, hn, hj => by
    have : j = 0 := by omega
    subst this; exact ltT_irrefl _
  | n + 1, j, hn, hj => by
    by_cases h0 : j = 0
    · subst h0; exact ltT_irrefl _
    · exact le_trans' (h j hj (by omega)) (Heap.first h n (par j) (by unfold par; omega) (by unfold par; omega))
/-- What up leaves. -/
structure UpTo (hs hs' : List Tm) (i i' : Nat) : Prop where
  perm : hs'.Perm hs
  hb : HB hs' i'
  lt : i' < hs'.length
  same : ga hs' i' = ga hs i
theorem UpTo.step {hs hs' : List Tm} {i i' : Nat} (h : UpTo hs hs' i i') (h0 : 0 < i') (hlt : ltT (ga hs' i') (ga hs' (par i')) = true) : UpTo hs (sw hs' i' (par i')) i (par i') where
  perm := (sw_perm h.lt (by have := h.lt; unfold par; omega)).trans h.perm
  hb := h.hb.upstep h.lt h0 hlt
  lt := by rw [sw_length]; have := h.lt; unfold par; omega
  same := by rw [ga_sw h.lt (by have := h.lt; unfold par; omega), if_pos rfl]; exact h.same
end Go.Sl
