/-
  The statements of layer 11: what they call that is the document's, in plain words; alive.
-/
import Derived.Test.YtgkjendknckibaaTmB
import Derived.Test.YtgkjendknckibaaOpen
import Derived.KernelRfl
namespace Go.Sl
open Go.RowKit Go.Proofs Go.Proofs.YtgkjendknckibaaW.PrintWords Go.Proofs.Ytgkjendknckibaa.PTim
set_option linter.unusedVariables false
set_option maxRecDepth 100000

theorem toList_inj {a b : ByteArray} : a.toList = b.toList ↔ a = b := by
  refine ⟨fun h => ?_, fun h => by rw [h]⟩
  rw [ByteArray.toList_eq, ByteArray.toList_eq] at h
  cases a; cases b
  simp only [ByteArray.mk.injEq]
  exact Array.toList_inj.1 h
theorem rdOf_at {α : Type} (d : α) (xs : List α) (i : Nat) (h : i < xs.length) : rdOf d xs (i : Int) = xs[i] := by
  unfold rdOf
  simp [List.getD_eq_getElem?_getD, h]
theorem wrap_up {i n : Nat} (h : i < n) (hn : n ≤ 9223372036854775807) : wrap64 ((i : Int) + 1) = ((i + 1 : Nat) : Int) := by
  unfold wrap64; omega

/-- 'T.Same' answers whether two lists are one. -/
theorem same_l0 {xs ys : List ByteArray} (hl : xs.length = ys.length) (hs : xs.length ≤ 9223372036854775807) : ∀ (d k : Nat) (i : Nat), xs.length - i = d → d < k → i ≤ xs.length →
    mewsref02_Same.l0 k xs ys i = some (decide (xs.drop i = ys.drop i)) := by
  intro d
  induction d with
  | zero =>
    intro k i hd hk hi
    obtain ⟨k, rfl⟩ : ∃ m, k = m + 1 := ⟨k - 1, by omega⟩
    simp only [mewsref02_Same.l0]
    rw [if_neg (by omega), List.drop_of_length_le (by omega), List.drop_of_length_le (by omega)]
    simp
  | succ d ih =>
    intro k i hd hk hi
    obtain ⟨k, rfl⟩ : ∃ m, k = m + 1 := ⟨k - 1, by omega⟩
    have h1 : i < xs.length := by omega
    have h2 : i < ys.length := by omega
    simp only [mewsref02_Same.l0]
    rw [if_pos (by omega), if_pos (by omega), if_pos (by omega), rdOf_at _ _ _ h1, rdOf_at _ _ _ h2, wrap_up h1 hs, ih k (i + 1) (by omega) (by omega) (by omega), List.drop_eq_getElem_cons h1, List.drop_eq_getElem_cons h2]
    by_cases e : xs[i] = ys[i]
    · rw [if_pos (toList_inj.2 e)]
      congr 1
      apply decide_eq_decide.2
      rw [List.cons.injEq]
      exact ⟨fun h => ⟨e, h⟩, fun h => h.2⟩
    · rw [if_neg (fun h => e (toList_inj.1 h))]
      congr 1
      refine (decide_eq_false ?_).symm
      rw [List.cons.injEq]
      exact fun h => e h.1
theorem same_f (xs ys : List ByteArray) (hs : xs.length ≤ 9223372036854775807) : mewsref02_Same.f (xs.length + 1) xs ys = some (decide (xs = ys)) := by
  unfold mewsref02_Same.f
  by_cases hl : xs.length = ys.length
  · rw [if_pos (by omega)]
    have := same_l0 hl hs xs.length (xs.length + 1) 0 (by omega) (by omega) (by omega)
    simpa using this
  · rw [if_neg (by omega)]
    have : xs ≠ ys := fun e => hl (by rw [e])
    simp [this]
/-- 'far': too many, or one too long. -/
def farB (l : List S28) : Bool := l.any (fun o => decide (200 < o.f1.size)) || decide (300 < l.length)
theorem far_l0 {l : List S28} (hs : l.length ≤ 9223372036854775807) : ∀ (d k : Nat) (i : Nat), l.length - i = d → d < k → i ≤ l.length →
    mewslaw11_far.l0 k l l (l.length : Int) i = some ((l.drop i).any (fun o => decide (200 < o.f1.size)) || decide (300 < l.length)) := by
  intro d
  induction d with
  | zero =>
    intro k i hd hk hi
    obtain ⟨k, rfl⟩ : ∃ m, k = m + 1 := ⟨k - 1, by omega⟩
    simp only [mewslaw11_far.l0]
    rw [if_neg (by omega), List.drop_of_length_le (by omega)]
    have : decide ((l.length : Int) > 300) = decide (300 < l.length) := by apply decide_eq_decide.2; omega
    simp [this]
  | succ d ih =>
    intro k i hd hk hi
    obtain ⟨k, rfl⟩ : ∃ m, k = m + 1 := ⟨k - 1, by omega⟩
    have h1 : i < l.length := by omega
    have e1 : rd_T28 l (i : Int) = l[i] := by unfold rd_T28; simp [List.getD_eq_getElem?_getD, h1]
    simp only [mewslaw11_far.l0]
    rw [if_pos (by omega), if_pos (by omega), if_pos (by omega), e1, wrap_up h1 hs, List.drop_eq_getElem_cons h1, ih k (i + 1) (by omega) (by omega) (by omega)]
    by_cases e : 200 < l[i].f1.size
    · rw [if_pos (by omega)]; simp only [List.any_cons, e, decide_true, Bool.true_or]
    · rw [if_neg (by omega)]; simp only [List.any_cons, e, decide_false, Bool.false_or]
theorem far_f {l : List S28} (hs : l.length ≤ 9223372036854775807) : mewslaw11_far.f (l.length + 1) l = some (farB l) := by
  unfold mewslaw11_far.f farB
  have := far_l0 hs l.length (l.length + 1) 0 (by omega) (by omega) (by omega)
  simpa using this

abbrev Opt := S28
instance : Inhabited Opt := ⟨z28⟩
theorem opensOpT : Opens Try.prog 28 k28 (fun x => (Lit.int .i64 x.f2).wf = true) := by
  have h := opens_struct (P := Try.prog) (t := 28) Try.underlying28 (by kernel_rfl) (opensFs_cons (opens_int Try.underlying3) rfl (by kernel_rfl) (opensFs_cons (off := 1) (opens_string Try.underlying9) rfl (by kernel_rfl) (opensFs_one (off := 2) (opens_int Try.underlying2) rfl (by kernel_rfl)) rfl rfl) rfl rfl)
  exact (h.iso (fun x : Opt => (x.f0, x.f1, x.f2)) (fun p => ⟨p.1, p.2.1, p.2.2⟩) (fun _ => rfl)).weaken (fun a h => h.2.2)
theorem opensOpsT : Opens Try.prog 22 (Kd.slice 28 k28) (fun xs => ∀ x ∈ xs, (Lit.int .i64 x.f2).wf = true) := opens_slice Try.underlying22 (by kernel_rfl) opensOpT
theorem drawn_sat {w0 w w' : World} {A : HP} (S : Sat w0 w A) (h : Drawn0 w w') : Sat w0 w' A := S.below h.below
abbrev kA : ByteArray := ⟨#[97]⟩
abbrev kB : ByteArray := ⟨#[98]⟩
abbrev kC : ByteArray := ⟨#[99]⟩
def l1 : List Tm := [⟨kB, 1⟩]
def l2 : List Tm := [⟨kB, 1⟩, ⟨kA, 2⟩]
def l3 : List Tm := [⟨kB, 1⟩, ⟨kC, 1⟩, ⟨kA, 2⟩]
theorem q1 : setL [] kB 1 = l1 ∧ (!(findT [] kB).isSome) = true := ⟨by kernel_rfl, by decide +kernel⟩
theorem q2 : setL l1 kA 2 = l2 ∧ (!(findT l1 kA).isSome) = true := ⟨by kernel_rfl, by decide +kernel⟩
theorem q3 : setL l2 kC 1 = l3 ∧ (!(findT l2 kC).isSome) = true := ⟨by kernel_rfl, by decide +kernel⟩
theorem q4 : setL l3 kC 1 = l3 ∧ (!(findT l3 kC).isSome) = false := ⟨by kernel_rfl, by decide +kernel⟩
theorem q5 : (dueOf l3 1).map (·.f0) = [kB, kC] ∧ (leftOf l3 1).length = 1 := ⟨by decide +kernel, by decide +kernel⟩
set_option maxHeartbeats 4000000 in
/-- 'alive()'. -/
theorem aliveTm {w0 w : World} {R : HP} (S : Sat w0 w R) :
    Calls Try.prog 12 #[] w fun en w' => en = .returned (.bool true) ∧ Sat w0 w' R := by
  have HS := Lib.hid S
  clear S
  go_enter Try.func12, Try.ntmps12
  go_wp2_with fail
  refine (tbNew HS.out).mono ?_
  rintro en w1 ⟨b, rfl, S1⟩
  have HS1 := Lib.hid S1
  clear S1 HS
  go_wp2_with fail
  refine (tbSet (by decide) HS1.out).mono ?_
  rintro en w2 ⟨rfl, S2⟩
  rw [q1.1] at S2
  rw [q1.2]
  have HS2 := Lib.hid S2
  clear S2 HS1
  go_wp2_with fail
  refine (tbSet (by decide) HS2.out).mono ?_
  rintro en w3 ⟨rfl, S3⟩
  rw [q2.1] at S3
  rw [q2.2]
  have HS3 := Lib.hid S3
  clear S3 HS2
  go_wp2_with fail
  refine (tbSet (by decide) HS3.out).mono ?_
  rintro en w4 ⟨rfl, S4⟩
  rw [q3.1] at S4
  rw [q3.2]
  have HS4 := Lib.hid S4
  clear S4 HS3
  go_wp2_with fail
  refine (tbSet (by decide) HS4.out).mono ?_
  rintro en w5 ⟨rfl, S5⟩
  rw [q4.1] at S5
  rw [q4.2]
  have HS5 := Lib.hid S5
  clear S5 HS4
  go_wp2_with fail
  refine (tbDue HS5.out).mono ?_
  rintro en w6 ⟨v, rfl, S6⟩
  rw [q5.1] at S6
  obtain ⟨A, c, rfl, hc, hC⟩ := S6.row_str rfl
  have HS6 := Lib.hid S6
  have HC := Lib.hid hC
  have hC2 : Kd.C Kd.string (w6.alloc (.cells #[.string kB, .string kC] 9)) (some ⟨w6.heap.size, 0, none⟩) ([kB, kC] : List ByteArray).length [kB, kC] :=
    readsStr (by simp) fun j u hj => cell_of (S6.alloc (.cells #[.string kB, .string kC] 9)).blk j (by simpa using hj)
  have HC2 := Lib.hid hC2
  have HCc := Lib.hid hc
  clear S6 HS5 hC hC2 hc
  go_wp2_with fail
  refine (mewsref02_Same.calls 3 A c [kB, kC] (some ⟨w6.heap.size, 0, none⟩) 2 [kB, kC] true _ (Kd.C_below HC.out ((Below.refl _ _).alloc (Nat.le_refl _) _)) HCc.out HC2.out (by simp) ((same_f _ _ (by simp)).trans (by simp))).mono ?_
  rintro en w7 ⟨rfl, hd⟩
  have HS7 := Lib.hid (drawn_sat ((HS6.out.alloc (.cells #[.string kB, .string kC] 9)).drop1) hd).drop1
  clear hd HS6 HC HC2 HCc
  go_wp2_with fail
  refine (tbLen HS7.out).mono ?_
  rintro en w8 ⟨rfl, rfl⟩
  rw [q5.2]
  go_wp2_with fail
  go_ret
  exact ⟨rfl, HS7.out.drop1⟩
end Go.Sl
