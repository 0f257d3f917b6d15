/-
  The statements of layer 12, walked.
-/
import Derived.Test.YtddkongfhffajaaLawOrd
namespace Go.Sl
open Go.RowKit Go.Proofs Go.Proofs.YtddkongfhffajaaW.PrintWords Go.Proofs.Ytddkongfhffajaa.POrderPlays
set_option linter.unusedVariables false
set_option maxRecDepth 100000

theorem drawn_sat {w0 w w' : World} {A : HP} (S : Sat w0 w A) (h : Drawn0 w w') : Sat w0 w' A := S.below h.below
abbrev kA : ByteArray := ⟨#[97]⟩
abbrev kB : ByteArray := ⟨#[98]⟩
/-- 'alive()'. -/
theorem aliveOrd {w0 w : World} {R : HP} (S : Sat w0 w R) :
    Calls Try.prog 10 #[] w fun en w' => en = .returned (.bool true) ∧ Sat w0 w' R := by
  have HS := Lib.hid S
  clear S
  go_enter Try.func10, Try.ntmps10
  go_wp2_with fail
  refine (ordNew_calls HS.out).mono ?_
  rintro en w1 ⟨o, rfl, e, m, S1⟩
  have HS1 : Hid (Sat w0 w1 (ord o [] * R)) := Lib.hid S1.ord_shut
  clear S1 HS
  go_wp2_with fail
  refine (ordTouch HS1.out).mono ?_
  rintro en w2 ⟨rfl, S2⟩
  have HS2 : Hid (Sat w0 w2 (ord o [kA] * R)) := Lib.hid S2
  rw [show (!hasK [] kA) = true from rfl]
  clear S2 HS1
  go_wp2_with fail
  refine (ordTouch HS2.out).mono ?_
  rintro en w3 ⟨rfl, S3⟩
  have HS3 : Hid (Sat w0 w3 (ord o [kA, kB] * R)) := Lib.hid S3
  rw [show (!hasK [kA] kB) = true from by decide]
  clear S3 HS2
  go_wp2_with fail
  refine (ordTouch HS3.out).mono ?_
  rintro en w4 ⟨rfl, S4⟩
  have HS4 : Hid (Sat w0 w4 (ord o [kB, kA] * R)) := Lib.hid S4
  rw [show (!hasK [kA, kB] kA) = false from by decide]
  clear S4 HS3
  go_wp2_with fail
  refine (ordOldest HS4.out).mono ?_
  rintro en w5 ⟨rfl, S5⟩
  have HS5 := Lib.hid S5
  rw [show ([kB, kA].headD ⟨#[]⟩) = kB from rfl, show (!([kB, kA] : List ByteArray).isEmpty) = true from rfl]
  clear S5 HS4
  go_wp2_with fail
  refine (ordLen HS5.out).mono ?_
  rintro en w6 ⟨rfl, rfl⟩
  rw [show (([kB, kA] : List ByteArray).length) = 2 from rfl]
  go_wp2_with fail
  refine (ordAll (by simp) HS5.out).mono ?_
  rintro en w7 ⟨v, rfl, S7⟩
  obtain ⟨A, c, rfl, hc, hC⟩ := S7.row_str rfl
  have HS7 := Lib.hid S7
  have HC := Lib.hid hC
  have hC2 : Kd.C Kd.string (w7.alloc (.cells #[.string kB, .string kA] 9)) (some ⟨w7.heap.size, 0, none⟩) ([kB, kA] : List ByteArray).length [kB, kA] :=
    readsStr (by simp) fun j u hj => cell_of (World.alloc_heap_new w7 _) j (by simpa using hj)
  have HC2 := Lib.hid hC2
  have HCc := Lib.hid hc
  clear S7 HS5 hC hC2 hc
  go_wp2_with fail
  refine (mewsref02_Same.calls 3 A c [kB, kA] (some ⟨w7.heap.size, 0, none⟩) 2 [kB, kA] true _ (Kd.C_below HC.out ((Below.refl _ _).alloc (Nat.le_refl _) _)) HCc.out HC2.out (by simp) ((same_f _ _ (by simp)).trans (by simp))).mono ?_
  rintro en w8 ⟨rfl, hd⟩
  have HS8 := Lib.hid (drawn_sat ((HS7.out.alloc (.cells #[.string kB, .string kA] 9)).drop1) hd)
  clear hd HS7 HC HC2 HCc
  go_wp2_with fail
  go_ret
  exact ⟨rfl, HS8.out.drop1.drop1⟩

/-- 'OrderNobody(key)'. -/
theorem nobodyOrd {w0 w : World} {key : ByteArray} {R : HP} (S : Sat w0 w R) :
    Calls Try.prog 5 #[.string key] w fun en w' => en = .returned (.bool true) ∧ Sat w0 w' R := by
  have HS := Lib.hid S
  clear S
  by_cases hk : 200 < key.size
  · go_enter Try.func5, Try.ntmps5
    go_wp2_with (go_at_call 10; refine (aliveOrd HS.out).mono ?_; rintro en w1 ⟨rfl, S1⟩; have HS1 := Lib.hid S1; clear S1)
    go_ret
    exact ⟨rfl, HS1.out⟩
  · have hk1 : decide ((200 : Int) < key.size) = false := decide_eq_false (by omega)
    have hk2 : decide (200 < key.size) = false := decide_eq_false hk
    go_enter Try.func5, Try.ntmps5
    go_wp2_with fail
    refine (ordOldest_nil HS.out).mono ?_
    rintro en w1 ⟨rfl, S1⟩
    have HS1 := Lib.hid S1
    clear S1 HS
    go_wp2_with (first | (go_at_call 14; refine (ordTouch_nil _ _).mono ?_; rintro en w' ⟨rfl, rfl⟩) | (go_at_call 12; refine (ordDrop_nil _ _).mono ?_; rintro en w' ⟨rfl, rfl⟩) | (go_at_call 20; refine (ordHas_nil _ _).mono ?_; rintro en w' ⟨rfl, rfl⟩) | (go_at_call 17; refine (ordLen_nil _).mono ?_; rintro en w' ⟨rfl, rfl⟩))
    refine (ordAll_nil HS1.out).mono ?_
    rintro en w2 ⟨A, c, rfl, S2⟩
    obtain ⟨o, ho⟩ : ∃ o, o = w2.heap.size := ⟨_, rfl⟩
    have S3 := (S2.alloc (.cells #[.pointer none, .map none] 43)).ord_zero
    rw [← ho] at S3
    have HO := Lib.hid ho
    have HS3 := Lib.hid S3
    clear S2 S3 HS1 ho
    go_wp2_with fail
    rw [← HO.out]
    refine (ordDrop HS3.out).mono ?_
    rintro en w4 ⟨rfl, S4⟩
    rw [show hasK [] key = false from rfl]
    have HS4 : Hid (Sat w0 w4 (ord o [] * R)) := Lib.hid S4
    clear S4 HS3 HO
    go_wp2_with fail
    refine (ordAll (by simp) HS4.out).mono ?_
    rintro en w5 ⟨v, rfl, S5⟩
    obtain ⟨A5, c5, rfl, -, -⟩ := S5.row_str (xs := []) rfl
    have HS5 := Lib.hid S5.drop1
    clear S5 HS4
    go_wp2_with fail
    refine (ordTouch HS5.out).mono ?_
    rintro en w6 ⟨rfl, S6⟩
    have HS6 : Hid (Sat w0 w6 (ord o [key] * R)) := Lib.hid S6
    rw [show (!hasK [] key) = true from rfl]
    clear S6 HS5
    go_wp2_with fail
    refine (ordHas HS6.out).mono ?_
    rintro en w7 ⟨rfl, rfl⟩
    rw [show hasK [key] key = true from hasK_true (by simp)]
    go_wp2_with fail
    refine (ordAll (by simp) HS6.out).mono ?_
    rintro en w7 ⟨v, rfl, S7⟩
    obtain ⟨A7, c7, rfl, hc, hC⟩ := S7.row_str rfl
    have HS7 := Lib.hid S7
    have HC := Lib.hid hC
    have hC2 : Kd.C Kd.string (w7.alloc (.cells #[.string key] 9)) (some ⟨w7.heap.size, 0, none⟩) ([key] : List ByteArray).length [key] :=
      readsStr (by simp) fun j u hj => cell_of (World.alloc_heap_new w7 _) j (by simpa using hj)
    have HC2 := Lib.hid hC2
    have HCc := Lib.hid hc
    clear S7 HS6 hC hC2 hc
    go_wp2_with fail
    refine (mewsref02_Same.calls 2 A7 c7 [key] (some ⟨w7.heap.size, 0, none⟩) 1 [key] true _ (Kd.C_below HC.out ((Below.refl _ _).alloc (Nat.le_refl _) _)) HCc.out HC2.out (by simp) ((same_f _ _ (by simp)).trans (by simp))).mono ?_
    rintro en w8 ⟨rfl, hd⟩
    have HS8 := Lib.hid (drawn_sat ((HS7.out.alloc (.cells #[.string key] 9)).drop1) hd).drop1.drop1
    clear hd HS7 HC HC2 HCc
    go_wp2_with (go_at_call 10; refine (aliveOrd HS8.out).mono ?_; rintro en w9 ⟨rfl, S9⟩; have HS9 := Lib.hid S9; clear S9)
    go_ret
    exact ⟨rfl, HS9.out⟩
end Go.Sl
