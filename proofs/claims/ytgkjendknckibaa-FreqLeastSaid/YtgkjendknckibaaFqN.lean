/-
  Package freq: a book that is none.
-/
import Derived.Test.YtgkjendknckibaaFqL
namespace Go.Sl
open Go.RowKit Go.Proofs Go.Proofs.YtgkjendknckibaaW.PrintWords
set_option linter.unusedVariables false
set_option linter.unusedSimpArgs false
set_option maxRecDepth 100000

theorem bkAll_nil (w : World) : Calls Try.prog 41 #[.pointer none] w fun en w' => en = .returned (.slice none 0 0) ∧ w' = w := by
  go_enter Try.func41, Try.ntmps41
  go_wp2_with fail
  refine (bkLen_nil _).mono ?_
  rintro en w1 ⟨rfl, rfl⟩
  go_wp2_with fail
  go_ret
  exact ⟨rfl, rfl⟩
theorem bkHalve_nil {w0 w : World} {R : HP} (S : Sat w0 w R) : Calls Try.prog 35 #[.pointer none] w fun en w' => en = .returned (.int .i64 0) ∧ Sat w0 w' R := by
  have HS := Lib.hid (S.alloc (.cells #[.pointer none] 56)).drop1
  clear S
  go_enter Try.func35, Try.ntmps35
  go_wp2_with fail
  refine (bkAll_nil _).mono ?_
  rintro en w1 ⟨rfl, rfl⟩
  go_wp2_with fail
  go_ret
  exact ⟨rfl, HS.out⟩
theorem bkLeast_nil {w0 w : World} {R : HP} (S : Sat w0 w R) : Calls Try.prog 40 #[.pointer none] w fun en w' => en = .returned (.tuple #[.string ⟨#[]⟩, .bool false]) ∧ Sat w0 w' R := by
  have HS := Lib.hid S
  clear S
  go_enter Try.func40, Try.ntmps40
  go_wp2_with fail
  go_loopw [7] (fun v7 wr => ∃ i : Nat, v7 = .int .i64 i ∧ i ≤ 256 ∧ Hid (Sat w0 wr R)) (fun v7 _ => 256 - (intOf v7).toNat)
  case atStart => exact ⟨0, rfl, by omega, HS⟩
  case round =>
    clear HS
    obtain ⟨i, rfl, hi, HSi⟩ := hrel
    by_cases hlt : (i : Int) < 256
    · go_wp2_with fail
      refine (bkLen_nil _).mono ?_
      rintro en w1 ⟨rfl, rfl⟩
      go_wp2_with fail
      go_ret2
      exact ⟨rfl, HSi.out⟩
    · go_wp2_with fail
      go_ret2
      exact ⟨rfl, HSi.out⟩
end Go.Sl
