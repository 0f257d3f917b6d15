/-
  What the statements of layer 38 call that is the document's, in plain words: without, far.
-/
import Derived.Test.YtddkongfhffajaaLawWait
import Derived.Test.YtddkongfhffajaaLawOrd
import Derived.Test.YtddkongfhffajaaKi
import Derived.Test.YtddkongfhffajaaPWaitOrderx1
namespace Go.Sl
open Go.RowKit Go.Proofs Go.Proofs.YtddkongfhffajaaW.PrintWords
set_option linter.unusedVariables false
set_option linter.unusedSimpArgs false
set_option maxRecDepth 100000

theorem rd_at (xs : List Int) (i : Nat) (h : i < xs.length) : rd xs (i : Int) = xs[i] := by
  unfold rd
  simp [List.getD_eq_getElem?_getD, h]
/-- Numbers, without one. -/
def withoutI (xs : List Int) (n : Int) : List Int := xs.filter fun x => !decide (x = n)
open Go.Proofs.Ytddkongfhffajaa.PWaitOrder in
theorem without_l0 {xs : List Int} {n : Int} (hs : xs.length ≤ 1000000000) : ∀ (d k : Nat) (i : Nat) (acc : List Int), xs.length - i = d → d < k → i ≤ xs.length → acc.length ≤ i →
    mewslaw38_without.l0 k n acc xs (xs.length : Int) i = some (acc ++ withoutI (xs.drop i) n) := by
  intro d
  induction d with
  | zero =>
    intro k i acc hd hk hi ha
    obtain ⟨k, rfl⟩ : ∃ m, k = m + 1 := ⟨k - 1, by omega⟩
    simp only [mewslaw38_without.l0]
    rw [if_neg (by omega), List.drop_of_length_le (by omega)]
    simp [withoutI]
  | succ d ih =>
    intro k i acc hd hk hi ha
    obtain ⟨k, rfl⟩ : ∃ m, k = m + 1 := ⟨k - 1, by omega⟩
    have h1 : i < xs.length := by omega
    simp only [mewslaw38_without.l0]
    rw [if_pos (by omega), if_pos (by omega), if_pos (by omega), rd_at _ _ h1, wrap_up h1 (by omega), List.drop_eq_getElem_cons h1]
    unfold withoutI
    by_cases e : xs[i] = n
    · rw [if_pos e, ih k (i + 1) acc (by omega) (by omega) (by omega) (by omega), List.filter_cons_of_neg (by simp [e])]
      rfl
    · rw [if_neg e, if_pos (by omega), ih k (i + 1) (acc ++ [xs[i]]) (by omega) (by omega) (by omega) (by simp; omega), List.filter_cons_of_pos (by simp [e])]
      simp only [withoutI, List.append_assoc, List.singleton_append]
open Go.Proofs.Ytddkongfhffajaa.PWaitOrder in
theorem without_f {xs : List Int} {n : Int} (hs : xs.length ≤ 1000000000) : mewslaw38_without.f (xs.length + 1) xs n = some (withoutI xs n) := by
  unfold mewslaw38_without.f
  have := without_l0 (n := n) hs xs.length (xs.length + 1) 0 [] (by omega) (by omega) (by omega) (by simp)
  rw [List.drop_zero, List.nil_append] at this
  exact this

theorem mn_pos {a b : Int} (ha : 0 ≤ a) (hb : 0 ≤ b) : 0 ≤ mn a b ∧ mn a b ≤ b := by
  unfold mn; split <;> omega
section
open Go.Proofs.Ytddkongfhffajaa.PWaitOrder
/-- Of what one call's keys are. -/
theorem far38_l1 {x0 x8 : List S52} {x9 x10 : Int} {xs : List ByteArray} {a b : Int} {ks : List ByteArray} {p q : Bool} {t : ByteArray} {u : Bool} {v : Int} {Pr : Prop} (hs : xs.length ≤ 9223372036854775807)
    (Q : ∀ n : Int, 0 ≤ n → n ≤ 3000 → ∃ k0 r, (∀ k, k0 ≤ k → mewslaw38_far.l0 k x0 n x8 x9 (wrap64 (x10 + 1)) = some r) ∧ (r = false → Pr)) :
    ∀ (d : Nat) (j : Nat) (n : Int), xs.length - j = d → j ≤ xs.length → 0 ≤ n → n ≤ 3000 →
      ∃ k0 r, (∀ k, k0 ≤ k → mewslaw38_far.l1 k x0 n x8 x9 x10 xs (xs.length : Int) j a b ks p q t u v = some r) ∧ (r = false → (d : Int) + n ≤ 3000 ∧ Pr) := by
  intro d
  induction d with
  | zero =>
    intro j n hd hj h0 h1
    obtain ⟨k0, r, hk, hr⟩ := Q n h0 h1
    by_cases ht : (t.size : Int) > 1000
    · refine ⟨1, true, fun k hk => ?_, fun e => by cases e⟩
      obtain ⟨k, rfl⟩ : ∃ m, k = m + 1 := ⟨k - 1, by omega⟩
      simp only [mewslaw38_far.l1]
      rw [if_neg (by omega), if_pos ht]
    · refine ⟨k0 + 1, r, fun k hk' => ?_, fun e => ⟨by omega, hr e⟩⟩
      obtain ⟨k, rfl⟩ : ∃ m, k = m + 1 := ⟨k - 1, by omega⟩
      simp only [mewslaw38_far.l1]
      rw [if_neg (by omega), if_neg ht]
      exact hk k (by omega)
  | succ d ih =>
    intro j n hd hj h0 h1
    have hj' : j < xs.length := by omega
    obtain ⟨m0, m1⟩ := mn_pos (a := (((rdOf ByteArray.empty xs j)).size : Int)) (b := 10000) (by omega) (by omega)
    have hw : wrap64 (n + (1 + (mn ((rdOf ByteArray.empty xs (j : Int)).size : Int) 10000))) = n + (1 + (mn ((rdOf ByteArray.empty xs (j : Int)).size : Int) 10000)) := by unfold wrap64; omega
    by_cases hb : n + (1 + (mn ((rdOf ByteArray.empty xs (j : Int)).size : Int) 10000)) > 3000
    · refine ⟨1, true, fun k hk => ?_, fun e => by cases e⟩
      obtain ⟨k, rfl⟩ : ∃ m, k = m + 1 := ⟨k - 1, by omega⟩
      simp only [mewslaw38_far.l1]
      rw [if_pos (by omega), if_pos (by omega), if_pos (by omega), hw, if_pos hb]
    · obtain ⟨k0, r, hk, hr⟩ := ih (j + 1) _ (by omega) (by omega) (show 0 ≤ n + (1 + (mn ((rdOf ByteArray.empty xs (j : Int)).size : Int) 10000)) by omega) (by omega)
      refine ⟨k0 + 1, r, fun k hk' => ?_, fun e => ⟨by have := (hr e).1; omega, (hr e).2⟩⟩
      obtain ⟨k, rfl⟩ : ∃ m, k = m + 1 := ⟨k - 1, by omega⟩
      simp only [mewslaw38_far.l1]
      rw [if_pos (by omega), if_pos (by omega), if_pos (by omega), hw, if_neg hb, wrap_up hj' hs]
      exact hk k (by omega)
theorem far38_l0 {l : List S52} (hs : l.length ≤ 9223372036854775807) (hks : ∀ o ∈ l, o.f1.f1.length ≤ 9223372036854775807) : ∀ (d i : Nat) (n : Int), l.length - i = d → i ≤ l.length → 0 ≤ n → n ≤ 3000 →
    ∃ k0 r, (∀ k, k0 ≤ k → mewslaw38_far.l0 k l n l (l.length : Int) i = some r) ∧ (r = false → l.length ≤ 200 ∧ ∀ o ∈ l.drop i, o.f1.f1.length ≤ 3000) := by
  intro d
  induction d with
  | zero =>
    intro i n hd hi h0 h1
    refine ⟨1, decide ((l.length : Int) > 200), fun k hk => ?_, fun e => ⟨by have := of_decide_eq_false e; omega, by rw [List.drop_of_length_le (by omega)]; simp⟩⟩
    obtain ⟨k, rfl⟩ : ∃ m, k = m + 1 := ⟨k - 1, by omega⟩
    simp only [mewslaw38_far.l0]
    rw [if_neg (by omega)]
  | succ d ih =>
    intro i n hd hi h0 h1
    have hi' : i < l.length := by omega
    have e1 : rd_T52 l (i : Int) = l[i] := by unfold rd_T52; simp [List.getD_eq_getElem?_getD, hi']
    have hl := far38_l1 (x0 := l) (x8 := l) (x9 := (l.length : Int)) (x10 := (i : Int)) (xs := l[i].f1.f1) (a := l[i].f0) (b := l[i].f1.f0) (ks := l[i].f1.f1) (p := l[i].f1.f2) (q := l[i].f1.f3) (t := l[i].f1.f4) (u := l[i].f1.f5) (v := l[i].f1.f6)
      (Pr := l.length ≤ 200 ∧ ∀ o ∈ l.drop (i + 1), o.f1.f1.length ≤ 3000) (hks _ (List.getElem_mem hi')) (fun m hm0 hm1 => by rw [wrap_up hi' hs]; exact ih (i + 1) m (by omega) (by omega) hm0 hm1)
      l[i].f1.f1.length 0 n (by omega) (by omega) h0 h1
    obtain ⟨k0, r, hk, hr⟩ := hl
    refine ⟨k0 + 1, r, fun k hk' => ?_, fun e => ?_⟩
    · obtain ⟨k, rfl⟩ : ∃ m, k = m + 1 := ⟨k - 1, by omega⟩
      simp only [mewslaw38_far.l0]
      rw [if_pos (by omega), if_pos (by omega), if_pos (by omega), e1]
      exact hk k (by omega)
    · obtain ⟨h2, h3, h4⟩ := hr e
      refine ⟨h3, fun o ho => ?_⟩
      rw [List.drop_eq_getElem_cons hi'] at ho
      rcases List.mem_cons.1 ho with rfl | ho
      · omega
      · exact h4 o ho
/-- 'far' answers; where it says no, there are few calls, of few keys. -/
theorem far38_f {l : List S52} (hs : l.length ≤ 9223372036854775807) (hks : ∀ o ∈ l, o.f1.f1.length ≤ 9223372036854775807) : ∃ k r, mewslaw38_far.f k l = some r ∧ (r = false → l.length ≤ 200 ∧ ∀ o ∈ l, o.f1.f1.length ≤ 3000) := by
  obtain ⟨k0, r, hk, hr⟩ := far38_l0 hs hks l.length 0 0 (by omega) (by omega) (by omega) (by omega)
  exact ⟨k0, r, hk k0 (Nat.le_refl _), by simpa using hr⟩
end
end Go.Sl
