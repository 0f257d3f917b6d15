/-
  The statements of layer 13, walked: alive, Nobody.
-/
import Derived.Test.YtgkjendknckibaaLawFqH
namespace Go.Sl
open Go.RowKit Go.Proofs Go.Proofs.YtgkjendknckibaaW.PrintWords Go.Proofs.Ytgkjendknckibaa.PFreq
set_option linter.unusedVariables false
set_option maxRecDepth 100000

theorem drawn_sat {w0 w w' : World} {A : HP} (S : Sat w0 w A) (h : Drawn0 w w') : Sat w0 w' A := S.below h.below
abbrev kA : ByteArray := ⟨#[97]⟩
abbrev kB : ByteArray := ⟨#[98]⟩
abbrev kC : ByteArray := ⟨#[99]⟩
def a1 : List Mk := [⟨kA, 1, 1⟩]
def a2 : List Mk := [⟨kA, 2, 2⟩]
def a3 : List Mk := [⟨kA, 2, 2⟩, ⟨kB, 1, 3⟩]
def a4 : List Mk := [⟨kA, 2, 2⟩, ⟨kB, 1, 3⟩, ⟨kC, 1, 4⟩]
def a5 : List Mk := [⟨kA, 1, 2⟩, ⟨kB, 1, 3⟩, ⟨kC, 1, 4⟩]
theorem t1 : touchM [] kA (0 + 1) = a1 ∧ upC (cntOf [] kA) = 1 := ⟨rfl, rfl⟩
theorem t2 : touchM a1 kA (1 + 1) = a2 ∧ upC (cntOf a1 kA) = 2 := ⟨rfl, rfl⟩
theorem t3 : touchM a2 kB (2 + 1) = a3 ∧ upC (cntOf a2 kB) = 1 := ⟨rfl, rfl⟩
theorem t4 : touchM a3 kC (3 + 1) = a4 ∧ upC (cntOf a3 kC) = 1 := ⟨rfl, rfl⟩
theorem t5 : a4.map halfM = a5 ∧ lessN a4 = 1 := ⟨rfl, rfl⟩
theorem t6 : (allOf a4).headD ⟨#[]⟩ = kB ∧ (!(allOf a4).isEmpty) = true := ⟨by decide +kernel, by decide +kernel⟩
theorem t7 : allOf a5 = [kA, kB, kC] := by decide +kernel
set_option maxHeartbeats 4000000 in
/-- 'alive()'. -/
theorem aliveFq {w0 w : World} {R : HP} (S : Sat w0 w R) :
    Calls Try.prog 27 #[] w fun en w' => en = .returned (.bool true) ∧ Sat w0 w' R := by
  have HS := Lib.hid S
  clear S
  go_enter Try.func27, Try.ntmps27
  go_wp2_with fail
  refine (bkNew HS.out).mono ?_
  rintro en w1 ⟨b, rfl, S1⟩
  have HS1 := Lib.hid S1
  clear S1 HS
  go_wp2_with fail
  refine (bkTouch (by omega) HS1.out).mono ?_
  rintro en w2 ⟨rfl, S2⟩
  rw [t1.1] at S2
  rw [t1.2]
  have HS2 : Hid (Sat w0 w2 (bk b a1 1 * R)) := Lib.hid S2
  clear S2 HS1
  go_wp2_with fail
  refine (bkTouch (by omega) HS2.out).mono ?_
  rintro en w3 ⟨rfl, S3⟩
  rw [t2.1] at S3
  rw [t2.2]
  have HS3 : Hid (Sat w0 w3 (bk b a2 2 * R)) := Lib.hid S3
  clear S3 HS2
  go_wp2_with fail
  refine (bkTouch (by omega) HS3.out).mono ?_
  rintro en w4 ⟨rfl, S4⟩
  rw [t3.1] at S4
  rw [t3.2]
  have HS4 : Hid (Sat w0 w4 (bk b a3 3 * R)) := Lib.hid S4
  clear S4 HS3
  go_wp2_with fail
  refine (bkTouch (by omega) HS4.out).mono ?_
  rintro en w5 ⟨rfl, S5⟩
  rw [t4.1] at S5
  rw [t4.2]
  have HS5 : Hid (Sat w0 w5 (bk b a4 4 * R)) := Lib.hid S5
  clear S5 HS4
  go_wp2_with fail
  refine (bkLeast HS5.out).mono ?_
  rintro en w6 ⟨rfl, S6⟩
  rw [t6.1, t6.2]
  have HS6 := Lib.hid S6
  clear S6 HS5
  go_wp2_with fail
  refine (bkHalve HS6.out).mono ?_
  rintro en w7 ⟨rfl, S7⟩
  rw [t5.1] at S7
  rw [t5.2]
  have HS7 := Lib.hid S7
  clear S7 HS6
  go_wp2_with fail
  refine (bkAll HS7.out).mono ?_
  rintro en w8 ⟨v, rfl, S8⟩
  rw [t7] at S8
  obtain ⟨A, c, rfl, hc, hC⟩ := S8.row_str rfl
  have HS8 := Lib.hid S8
  have HC := Lib.hid hC
  have hC2 : Kd.C Kd.string (w8.alloc (.cells #[.string kA, .string kB, .string kC] 9)) (some ⟨w8.heap.size, 0, none⟩) ([kA, kB, kC] : List ByteArray).length [kA, kB, kC] :=
    readsStr (by simp) fun j u hj => cell_of (World.alloc_heap_new w8 _) j (by simpa using hj)
  have HC2 := Lib.hid hC2
  have HCc := Lib.hid hc
  clear S8 HS7 hC hC2 hc
  go_wp2_with fail
  refine (mewsref02_Same.calls 4 A c [kA, kB, kC] (some ⟨w8.heap.size, 0, none⟩) 3 [kA, kB, kC] true _ (Kd.C_below HC.out ((Below.refl _ _).alloc (Nat.le_refl _) _)) HCc.out HC2.out (by simp) ((same_f _ _ (by simp)).trans (by simp))).mono ?_
  rintro en w9 ⟨rfl, hd⟩
  have HS9 := Lib.hid (drawn_sat ((HS8.out.alloc (.cells #[.string kA, .string kB, .string kC] 9)).drop1) hd)
  clear hd HS8 HC HC2 HCc
  go_wp2_with fail
  go_ret
  exact ⟨rfl, HS9.out.drop1.drop1⟩
theorem u1 (key : ByteArray) : allOf [⟨key, 1, 1⟩] = [key] := by
  have h : ∀ n : Nat, upTo (rowOf [⟨key, 1, 1⟩]) (n + 2) = [key] := by
    intro n
    induction n with
    | zero => rfl
    | succ n ih =>
      rw [upTo, ih]
      have : rowOf [⟨key, 1, 1⟩] ((n + 2 : Nat) : Int) = [] := by
        unfold rowOf
        rw [List.filter_cons_of_neg (by simp; omega)]; rfl
      rw [this]; rfl
  exact h 254
set_option maxHeartbeats 4000000 in
/-- 'FreqNobody(key)'. -/
theorem nobodyFq {w0 w : World} {key : ByteArray} {R : HP} (S : Sat w0 w R) :
    Calls Try.prog 10 #[.string key] w fun en w' => en = .returned (.bool true) ∧ Sat w0 w' R := by
  have HS := Lib.hid S
  clear S
  by_cases hk : 200 < key.size
  · go_enter Try.func10, Try.ntmps10
    go_wp2_with (go_at_call 27; refine (aliveFq HS.out).mono ?_; rintro en w1 ⟨rfl, S1⟩; have HS1 := Lib.hid S1; clear S1)
    go_ret
    exact ⟨rfl, HS1.out⟩
  · have hk1 : decide ((200 : Int) < key.size) = false := decide_eq_false (by omega)
    have hk2 : decide (200 < key.size) = false := decide_eq_false hk
    go_enter Try.func10, Try.ntmps10
    go_wp2_with fail
    refine (bkLeast_nil HS.out).mono ?_
    rintro en w1 ⟨rfl, S1⟩
    have HS1 := Lib.hid S1
    clear S1 HS
    go_wp2_with fail
    refine (bkTouch_nil _ _).mono ?_
    rintro en w' ⟨rfl, rfl⟩
    go_wp2_with fail
    refine (bkDrop_nil _ _).mono ?_
    rintro en w' ⟨rfl, rfl⟩
    go_wp2_with fail
    refine (bkCount_nil _ _).mono ?_
    rintro en w' ⟨rfl, rfl⟩
    go_wp2_with fail
    refine (bkHalve_nil HS1.out).mono ?_
    rintro en w2 ⟨rfl, S2⟩
    have HS2 := Lib.hid S2
    clear S2 HS1
    go_wp2_with fail
    refine (bkLen_nil _).mono ?_
    rintro en w' ⟨rfl, rfl⟩
    go_wp2_with fail
    refine (bkAll_nil _).mono ?_
    rintro en w' ⟨rfl, rfl⟩
    have S3 := HS2.out.alloc (.cells #[.map none, .map none, .int .u64 0] 80)
    obtain ⟨o, ho⟩ : ∃ o, o = w'.heap.size := ⟨_, rfl⟩
    rw [← ho] at S3
    have S3' : Sat w0 _ (zbk o * R) := S3
    have HO := Lib.hid ho
    have HS3 := Lib.hid S3'
    clear S3 S3' HS2 ho
    go_wp2_with fail
    rw [← HO.out]
    refine (zbLeast HS3.out).mono ?_
    rintro en w4 ⟨rfl, S4⟩
    have HS4 := Lib.hid S4
    clear S4 HS3 HO
    go_wp2_with fail
    refine (zbDrop HS4.out).mono ?_
    rintro en w5 ⟨rfl, rfl⟩
    go_wp2_with fail
    refine (zbHalve HS4.out).mono ?_
    rintro en w6 ⟨rfl, S6⟩
    have HS6 := Lib.hid S6
    clear S6 HS4
    go_wp2_with fail
    refine (zbTouch HS6.out).mono ?_
    rintro en w7 ⟨rfl, S7⟩
    have HS7 := Lib.hid S7
    clear S7 HS6
    go_wp2_with fail
    refine (bkAll HS7.out).mono ?_
    rintro en w8 ⟨v, rfl, S8⟩
    rw [u1] at S8
    obtain ⟨A, c, rfl, hc, hC⟩ := S8.row_str rfl
    have HS8 := Lib.hid S8
    have HC := Lib.hid hC
    have hC2 : Kd.C Kd.string (w8.alloc (.cells #[.string key] 9)) (some ⟨w8.heap.size, 0, none⟩) ([key] : List ByteArray).length [key] :=
      readsStr (by simp) fun j u hj => cell_of (World.alloc_heap_new w8 _) j (by simpa using hj)
    have HC2 := Lib.hid hC2
    have HCc := Lib.hid hc
    clear S8 HS7 hC hC2 hc
    go_wp2_with fail
    refine (mewsref02_Same.calls 2 A c [key] (some ⟨w8.heap.size, 0, none⟩) 1 [key] true _ (Kd.C_below HC.out ((Below.refl _ _).alloc (Nat.le_refl _) _)) HCc.out HC2.out (by simp) ((same_f _ _ (by simp)).trans (by simp))).mono ?_
    rintro en w9 ⟨rfl, hd⟩
    have HS9 := Lib.hid (drawn_sat ((HS8.out.alloc (.cells #[.string key] 9)).drop1) hd).drop1.drop1
    clear hd HS8 HC HC2 HCc
    go_wp2_with fail
    refine (aliveFq HS9.out).mono ?_
    rintro en w10 ⟨rfl, S10⟩
    have HS10 := Lib.hid S10
    clear S10 HS9
    go_wp2_with fail
    go_ret
    exact ⟨rfl, HS10.out⟩
theorem nobodyFqWalk {w : World} (key : ByteArray) (_ : key.size ≤ maxLen) : Calls Try.prog 10 #[.string key] w fun en w' => en = .returned (.bool true) ∧ Below w.heap.size w w' :=
  (nobodyFq (Sat.start w)).mono fun _ _ h => ⟨h.1, h.2.old1⟩
end Go.Sl
