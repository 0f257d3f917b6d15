/-
  The contract of package freq's Least.
-/
import Derived.Test.YtgkjendknckibaaFqA
namespace Go.Sl
open Go.RowKit Go.Proofs Go.Proofs.YtgkjendknckibaaW.PrintWords
set_option linter.unusedVariables false
set_option linter.unusedSimpArgs false
set_option maxRecDepth 100000

theorem upTo_prefix (f : RF) (i : Nat) : ∀ j, ∃ t, upTo f (i + j) = upTo f i ++ t
  | 0 => ⟨[], by simp⟩
  | j + 1 => by
    obtain ⟨t, h⟩ := upTo_prefix f i j
    exact ⟨t ++ f ((i + j : Nat) : Int), by rw [← Nat.add_assoc, upTo, h, List.append_assoc]⟩
theorem all_head {es : List Mk} {i : Nat} (hi : i < 256) (h0 : upTo (rowOf es) i = []) (hne : rowOf es i ≠ []) : (allOf es).headD ⟨#[]⟩ = (rowOf es i).headD ⟨#[]⟩ ∧ (allOf es).isEmpty = false := by
  obtain ⟨t, ht⟩ := upTo_prefix (rowOf es) (i + 1) (255 - i)
  rw [show i + 1 + (255 - i) = 256 from by omega, show upTo (rowOf es) (i + 1) = upTo (rowOf es) i ++ rowOf es i from rfl, h0, List.nil_append] at ht
  unfold allOf
  rw [ht]
  cases hr : rowOf es i with
  | nil => exact absurd hr hne
  | cons a l => simp
set_option maxHeartbeats 8000000 in
/-- 'Least'. -/
theorem bkLeast {w0 w : World} {b : Nat} {es : List Mk} {now : Int} {R : HP} (S : Sat w0 w (bk b es now * R)) :
    Calls Try.prog 40 #[pt b] w fun en w' => en = .returned (.tuple #[.string ((allOf es).headD ⟨#[]⟩), .bool (!(allOf es).isEmpty)]) ∧ Sat w0 w' (bk b es now * R) := by
  have HS := Lib.hid S
  obtain ⟨_, _, hok, _⟩ := S.bk_open
  have hlen := allOf_length hok
  have HOK := Lib.hid hok
  have HL := Lib.hid hlen
  clear S hok hlen
  go_enter Try.func40, Try.ntmps40
  go_wp2_with fail
  go_loopw [7] (fun v7 wr => ∃ i : Nat, v7 = .int .i64 i ∧ i ≤ 256 ∧ Hid (upTo (rowOf es) i = []) ∧ Hid (Sat w0 wr (bk b es now * R))) (fun v7 _ => 256 - (intOf v7).toNat)
  case atStart => exact ⟨0, rfl, by omega, Lib.hid rfl, HS⟩
  case round =>
    clear HS
    obtain ⟨i, rfl, hi, HU, HSi⟩ := hrel
    by_cases hlt : (i : Int) < 256
    · by_cases hz : (es.length : Int) = 0
      · have HZ := Lib.hid hz
        have h0 : allOf es = [] := List.eq_nil_of_length_eq_zero (by rw [HL.out]; omega)
        have H0 := Lib.hid h0
        clear hz h0
        go_wp2_with fail
        refine (bkLen HSi.out).mono ?_
        rintro en w1 ⟨rfl, rfl⟩
        rw [HZ.out]
        go_wp2_with fail
        go_ret2
        exact ⟨by rw [H0.out]; rfl, HSi.out⟩
      · have hzb : ((es.length : Int) == 0) = false := by rw [beq_eq_false_iff_ne]; exact hz
        clear hz
        obtain ⟨mb, rb, -, S1⟩ := HSi.out.bk_open
        obtain ⟨r0, r1, r2, rf⟩ := blk3 S1.blk
        rcases S1.p3.rmap_get (i : Int) frm fik fozero with ⟨hl, he, S2⟩ | ⟨o, hl, S2⟩
        case' inl =>
          have HE := Lib.hid he
          have hup : upTo (rowOf es) (i + 1) = [] := by rw [upTo, HU.out, he]; rfl
          have HUP := Lib.hid hup
          clear S1 S2 he hup
          go_wp2_with fail
          refine (bkLen HSi.out).mono ?_
          rintro en w1 ⟨rfl, rfl⟩
          go_wp2_with fail
          refine (ordOldest_nil HSi.out).mono ?_
          rintro en w3 ⟨rfl, S3⟩
          have HS3 := Lib.hid S3
          clear S3 HSi
          go_wp2_with fail
          go_roundw
          case rel => exact ⟨i + 1, by simp, by omega, HUP, HS3⟩
          case measure => simp [intOf]; omega
        case' inr =>
          have HS2 := Lib.hid S2
          clear S1 S2
          go_wp2_with fail
          refine (bkLen HSi.out).mono ?_
          rintro en w1 ⟨rfl, rfl⟩
          go_wp2_with fail
          refine (ordOldest HS2.out).mono ?_
          rintro en w3 ⟨rfl, S3⟩
          have S4 := Sat.bk_shut (mb := mb) (rb := rb) HOK.out ((S3.rbut_close (g := rowOf es) (fun _ _ => rfl) rfl).cong (by ac_rfl))
          have HS4 := Lib.hid S4
          clear S3 S4 HS2 HSi
          cases hr : rowOf es i with
          | nil =>
            have hup : upTo (rowOf es) (i + 1) = [] := by rw [upTo, HU.out, hr]; rfl
            have HUP := Lib.hid hup
            clear hr hup
            go_wp2_with fail
            go_roundw
            case rel => exact ⟨i + 1, by simp, by omega, HUP, HS4⟩
            case measure => simp [intOf]; omega
          | cons a t =>
            have hah := all_head (by omega) HU.out (by rw [hr]; simp)
            have HAH := Lib.hid hah
            have HRR := Lib.hid hr
            clear hr hah
            go_wp2_with fail
            go_ret2
            exact ⟨by rw [HAH.out.1, HAH.out.2, HRR.out]; rfl, HS4.out⟩
    · have hi2 : i = 256 := by omega
      subst hi2
      have h0 : allOf es = [] := by unfold allOf; exact HU.out
      have H0 := Lib.hid h0
      clear hlt h0
      go_wp2_with fail
      go_ret2
      exact ⟨by rw [H0.out]; rfl, HSi.out⟩
end Go.Sl
