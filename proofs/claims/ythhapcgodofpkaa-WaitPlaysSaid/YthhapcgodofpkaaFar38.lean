/-
  Layer 38: 'far' in plain words; the opened arguments.
-/
import Derived.Test.YthhapcgodofpkaaLawWait
import Derived.Test.YthhapcgodofpkaaPWaitx1
import Derived.Test.YthhapcgodofpkaaOpen
namespace Go.Sl
open Go.RowKit Go.Proofs Go.Proofs.YthhapcgodofpkaaW.PrintWords Go.Proofs.Ythhapcgodofpkaa.PWait
set_option linter.unusedVariables false
set_option linter.unusedSimpArgs false
set_option maxRecDepth 100000

theorem wrap_up {i n : Nat} (h : i < n) (hn : n ≤ 9223372036854775807) : wrap64 ((i : Int) + 1) = ((i + 1 : Nat) : Int) := by
  unfold wrap64; omega
theorem mn_pos {a b : Int} (ha : 0 ≤ a) (hb : 0 ≤ b) : 0 ≤ mn a b ∧ mn a b ≤ b := by
  unfold mn; split <;> omega
section
open Go.Proofs.Ythhapcgodofpkaa.PWait
/-- Of what one call's keys are. -/
theorem far38_l1 {x0 x8 : List S32} {x9 x10 : Int} {xs : List ByteArray} {a b : Int} {ks : List ByteArray} {p q : Bool} {t : ByteArray} {u : Bool} {v : Int} {Pr : Prop} (hs : xs.length ≤ 9223372036854775807)
    (Q : ∀ n : Int, 0 ≤ n → n ≤ 3000 → ∃ k0 r, (∀ k, k0 ≤ k → mewslaw38_far.l0 k x0 n x8 x9 (wrap64 (x10 + 1)) = some r) ∧ (r = false → Pr)) :
    ∀ (d : Nat) (j : Nat) (n : Int), xs.length - j = d → j ≤ xs.length → 0 ≤ n → n ≤ 3000 →
      ∃ k0 r, (∀ k, k0 ≤ k → mewslaw38_far.l1 k x0 n x8 x9 x10 xs (xs.length : Int) j a b ks p q t u v = some r) ∧ (r = false → (d : Int) + n ≤ 3000 ∧ Pr) := by
  intro d
  induction d with
  | zero =>
    intro j n hd hj h0 h1
    obtain ⟨k0, r, hk, hr⟩ := Q n h0 h1
    by_cases ht : (t.size : Int) > 1000
    · refine ⟨1, true, fun k hk => ?_, fun e => by cases e⟩
      obtain ⟨k, rfl⟩ : ∃ m, k = m + 1 := ⟨k - 1, by omega⟩
      simp only [mewslaw38_far.l1]
      rw [if_neg (by omega), if_pos ht]
    · refine ⟨k0 + 1, r, fun k hk' => ?_, fun e => ⟨by omega, hr e⟩⟩
      obtain ⟨k, rfl⟩ : ∃ m, k = m + 1 := ⟨k - 1, by omega⟩
      simp only [mewslaw38_far.l1]
      rw [if_neg (by omega), if_neg ht]
      exact hk k (by omega)
  | succ d ih =>
    intro j n hd hj h0 h1
    have hj' : j < xs.length := by omega
    obtain ⟨m0, m1⟩ := mn_pos (a := (((rdOf ByteArray.empty xs j)).size : Int)) (b := 10000) (by omega) (by omega)
    have hw : wrap64 (n + (1 + (mn ((rdOf ByteArray.empty xs (j : Int)).size : Int) 10000))) = n + (1 + (mn ((rdOf ByteArray.empty xs (j : Int)).size : Int) 10000)) := by unfold wrap64; omega
    by_cases hb : n + (1 + (mn ((rdOf ByteArray.empty xs (j : Int)).size : Int) 10000)) > 3000
    · refine ⟨1, true, fun k hk => ?_, fun e => by cases e⟩
      obtain ⟨k, rfl⟩ : ∃ m, k = m + 1 := ⟨k - 1, by omega⟩
      simp only [mewslaw38_far.l1]
      rw [if_pos (by omega), if_pos (by omega), if_pos (by omega), hw, if_pos hb]
    · obtain ⟨k0, r, hk, hr⟩ := ih (j + 1) _ (by omega) (by omega) (show 0 ≤ n + (1 + (mn ((rdOf ByteArray.empty xs (j : Int)).size : Int) 10000)) by omega) (by omega)
      refine ⟨k0 + 1, r, fun k hk' => ?_, fun e => ⟨by have := (hr e).1; omega, (hr e).2⟩⟩
      obtain ⟨k, rfl⟩ : ∃ m, k = m + 1 := ⟨k - 1, by omega⟩
      simp only [mewslaw38_far.l1]
      rw [if_pos (by omega), if_pos (by omega), if_pos (by omega), hw, if_neg hb, wrap_up hj' hs]
      exact hk k (by omega)
theorem far38_l0 {l : List S32} (hs : l.length ≤ 9223372036854775807) (hks : ∀ o ∈ l, o.f1.f1.length ≤ 9223372036854775807) : ∀ (d i : Nat) (n : Int), l.length - i = d → i ≤ l.length → 0 ≤ n → n ≤ 3000 →
    ∃ k0 r, (∀ k, k0 ≤ k → mewslaw38_far.l0 k l n l (l.length : Int) i = some r) ∧ (r = false → l.length ≤ 200 ∧ ∀ o ∈ l.drop i, o.f1.f1.length ≤ 3000) := by
  intro d
  induction d with
  | zero =>
    intro i n hd hi h0 h1
    refine ⟨1, decide ((l.length : Int) > 200), fun k hk => ?_, fun e => ⟨by have := of_decide_eq_false e; omega, by rw [List.drop_of_length_le (by omega)]; simp⟩⟩
    obtain ⟨k, rfl⟩ : ∃ m, k = m + 1 := ⟨k - 1, by omega⟩
    simp only [mewslaw38_far.l0]
    rw [if_neg (by omega)]
  | succ d ih =>
    intro i n hd hi h0 h1
    have hi' : i < l.length := by omega
    have e1 : rd_T32 l (i : Int) = l[i] := by unfold rd_T32; simp [List.getD_eq_getElem?_getD, hi']
    have hl := far38_l1 (x0 := l) (x8 := l) (x9 := (l.length : Int)) (x10 := (i : Int)) (xs := l[i].f1.f1) (a := l[i].f0) (b := l[i].f1.f0) (ks := l[i].f1.f1) (p := l[i].f1.f2) (q := l[i].f1.f3) (t := l[i].f1.f4) (u := l[i].f1.f5) (v := l[i].f1.f6)
      (Pr := l.length ≤ 200 ∧ ∀ o ∈ l.drop (i + 1), o.f1.f1.length ≤ 3000) (hks _ (List.getElem_mem hi')) (fun m hm0 hm1 => by rw [wrap_up hi' hs]; exact ih (i + 1) m (by omega) (by omega) hm0 hm1)
      l[i].f1.f1.length 0 n (by omega) (by omega) h0 h1
    obtain ⟨k0, r, hk, hr⟩ := hl
    refine ⟨k0 + 1, r, fun k hk' => ?_, fun e => ?_⟩
    · obtain ⟨k, rfl⟩ : ∃ m, k = m + 1 := ⟨k - 1, by omega⟩
      simp only [mewslaw38_far.l0]
      rw [if_pos (by omega), if_pos (by omega), if_pos (by omega), e1]
      exact hk k (by omega)
    · obtain ⟨h2, h3, h4⟩ := hr e
      refine ⟨h3, fun o ho => ?_⟩
      rw [List.drop_eq_getElem_cons hi'] at ho
      rcases List.mem_cons.1 ho with rfl | ho
      · omega
      · exact h4 o ho
/-- 'far' answers; where it says no, there are few calls, of few keys. -/
theorem far38_f {l : List S32} (hs : l.length ≤ 9223372036854775807) (hks : ∀ o ∈ l, o.f1.f1.length ≤ 9223372036854775807) : ∃ k r, mewslaw38_far.f k l = some r ∧ (r = false → l.length ≤ 200 ∧ ∀ o ∈ l, o.f1.f1.length ≤ 3000) := by
  obtain ⟨k0, r, hk, hr⟩ := far38_l0 hs hks l.length 0 0 (by omega) (by omega) (by omega) (by omega)
  exact ⟨k0, r, hk k0 (Nat.le_refl _), by simpa using hr⟩
end
instance : Inhabited S30 := ⟨z30⟩
instance : Inhabited S32 := ⟨z32⟩
theorem opensWaiter : Opens Try.prog 30 k30 (fun x => x.f1.length ≤ 9223372036854775807) := by
  have hs : Opens Try.prog 28 (Kd.slice 9 Kd.string) (fun xs => xs.length ≤ 9223372036854775807) := by
    constructor
    intro H enc w base sp held fuel cs x h
    obtain ⟨a, ha, _⟩ := (opens_slice (P := Try.prog) Try.underlying28 (by kernel_rfl) (opens_string Try.underlying9)).out h
    obtain ⟨A, c, e, hc, hC⟩ := ha
    exact ⟨a, ⟨A, c, e, hc, hC⟩, hC.2.1⟩
  have h := opens_struct (P := Try.prog) (t := 30) Try.underlying30 (by kernel_rfl) (opensFs_cons (opens_int Try.underlying3) rfl (by kernel_rfl) (opensFs_cons (off := 1) hs rfl (by kernel_rfl)
    (opensFs_cons (off := 2) (opens_bool Try.underlying4) rfl (by kernel_rfl) (opensFs_cons (off := 3) (opens_bool Try.underlying4) rfl (by kernel_rfl) (opensFs_cons (off := 4) (opens_string Try.underlying9) rfl (by kernel_rfl)
    (opensFs_cons (off := 5) (opens_bool Try.underlying4) rfl (by kernel_rfl) (opensFs_one (off := 6) (opens_int Try.underlying2) rfl (by kernel_rfl)) rfl rfl) rfl rfl) rfl rfl) rfl rfl) rfl rfl) rfl rfl)
  exact (h.iso (fun x : S30 => (x.f0, x.f1, x.f2, x.f3, x.f4, x.f5, x.f6)) (fun p => ⟨p.1, p.2.1, p.2.2.1, p.2.2.2.1, p.2.2.2.2.1, p.2.2.2.2.2.1, p.2.2.2.2.2.2⟩) (fun _ => rfl)).weaken (fun _ h => h.2.1)
theorem opensOp38 : Opens Try.prog 32 k32 (fun x => x.f1.f1.length ≤ 9223372036854775807) := by
  have h := opens_struct (P := Try.prog) (t := 32) Try.underlying32 (by kernel_rfl) (opensFs_cons (opens_int Try.underlying3) rfl (by kernel_rfl) (opensFs_one (off := 1) opensWaiter rfl (by kernel_rfl)) rfl rfl)
  exact (h.iso (fun x : S32 => (x.f0, x.f1)) (fun p => ⟨p.1, p.2⟩) (fun _ => rfl)).weaken (fun _ h => h.2)
theorem opensOps38 : Opens Try.prog 22 (Kd.slice 32 k32) (fun xs => ∀ x ∈ xs, x.f1.f1.length ≤ 9223372036854775807) := opens_slice Try.underlying22 (by kernel_rfl) opensOp38

end Go.Sl
