/-
  The contracts of package freq's functions: All, Least.
-/
import Derived.Test.YtgkjendknckibaaFqU
import Derived.Test.YtgkjendknckibaaAp
namespace Go.Sl
open Go.RowKit Go.Proofs Go.Proofs.YtgkjendknckibaaW.PrintWords
set_option linter.unusedVariables false
set_option linter.unusedSimpArgs false
set_option maxRecDepth 100000

/-- All keys, row by row, of the first n rows. -/
def upTo (f : RF) : Nat → List ByteArray
  | 0 => []
  | n + 1 => upTo f n ++ f n
def allOf (es : List Mk) : List ByteArray := upTo (rowOf es) 256
theorem filter_step (n : Int) : ∀ es : List Mk, (es.filter fun m : Mk => decide (m.c < n + 1)).length = (es.filter fun m : Mk => decide (m.c < n)).length + (es.filter fun m : Mk => decide (m.c = n)).length
  | [] => rfl
  | m :: es => by
    have ih := filter_step n es
    simp only [List.filter_cons]
    by_cases h1 : m.c < n
    · simp [h1, show m.c < n + 1 by omega, show ¬ m.c = n by omega]; omega
    · by_cases h2 : m.c = n
      · simp [h2, show n < n + 1 by omega]; omega
      · simp [h1, h2, show ¬ m.c < n + 1 by omega]; omega
theorem rows_le {es : List Mk} {now : Int} (ho : FOk es now) : ∀ n : Nat, (upTo (rowOf es) n).length = (es.filter fun m : Mk => decide (m.c < (n : Int))).length
  | 0 => by
    have : es.filter (fun m : Mk => decide (m.c < ((0 : Nat) : Int))) = [] := List.filter_eq_nil_iff.2 fun m hm => by have := (ho.pos m hm).1; simp; omega
    rw [this]; rfl
  | n + 1 => by
    rw [upTo, List.length_append, rows_le ho n, show ((n + 1 : Nat) : Int) = (n : Int) + 1 from by omega, filter_step]
    simp [rowOf]
theorem rows_max {es : List Mk} {now : Int} (ho : FOk es now) (n : Nat) : (upTo (rowOf es) n).length ≤ es.length := by
  rw [rows_le ho n]; exact List.length_filter_le _ _
theorem allOf_length {es : List Mk} {now : Int} (ho : FOk es now) : (allOf es).length = es.length := by
  rw [allOf, rows_le ho 256]
  congr 1
  exact List.filter_eq_self.2 fun m hm => by have := (ho.pos m hm).2.1; simp; omega
theorem fstrInfo : (Try.prog.info? 9).map (fun i => (i.zero, i.size, i.bytes)) = some (some (.string ⟨#[]⟩), 1, 16) := by kernel_rfl
set_option maxHeartbeats 8000000 in
/-- 'All'. -/
theorem bkAll {w0 w : World} {b : Nat} {es : List Mk} {now : Int} {R : HP} (S : Sat w0 w (bk b es now * R)) :
    Calls Try.prog 41 #[pt b] w fun en w' => ∃ v, en = .returned v ∧ Sat w0 w' (row 9 1 v (allOf es).length ((allOf es).map Value.string) * (bk b es now * R)) := by
  have HS := Lib.hid S
  obtain ⟨mb, rb, hok, S1⟩ := S.bk_open
  have HOK := Lib.hid hok
  clear S
  by_cases hz : (es.length : Int) = 0
  · have h0 : allOf es = [] := List.eq_nil_of_length_eq_zero (by rw [allOf_length hok]; omega)
    rw [h0]
    have HZ := Lib.hid hz
    clear S1 hok hz h0
    go_enter Try.func41, Try.ntmps41
    go_wp2_with fail
    refine (bkLen HS.out).mono ?_
    rintro en w1 ⟨rfl, rfl⟩
    rw [HZ.out]
    go_wp2_with fail
    go_ret
    exact ⟨_, rfl, HS.out.row_nil _ _⟩
  · have hzb : ((es.length : Int) == 0) = false := by rw [beq_eq_false_iff_ne]; exact hz
    have hel : (es.length : Int) ≤ 1000000 := by have := hok.len; have := hok.n1; omega
    have HSr := Lib.hid ((S1.row_nil 9 1))
    have HEL := Lib.hid hel
    clear S1 hok hz hel
    go_enter Try.func41, Try.ntmps41
    go_wp2_with fail
    refine (bkLen HS.out).mono ?_
    rintro en w1 ⟨rfl, rfl⟩
    clear HS
    go_wp2_with fail
    go_loopw [3, 9] (fun v3 v9 wr => ∃ q : Nat × Value, v9 = .int .i64 q.1 ∧ q.1 ≤ 256 ∧ v3 = q.2 ∧ Hid (Sat w0 wr (row 9 1 q.2 (upTo (rowOf es) q.1).length ((upTo (rowOf es) q.1).map Value.string) * (pts b (.cells #[.map (some mb), .map (some rb), .int .u64 now] 80 (0, 0)) * (gmap Value.string mb (marksOf es) * (rmap rb (rowOf es) * R)))))) (fun _ v9 _ => 256 - (intOf v9).toNat)
    case atStart => exact ⟨(0, .slice none 0 0), rfl, by simp, rfl, HSr⟩
    case round =>
      clear HSr
      obtain ⟨⟨i, v3⟩, rfl, hi, rfl, HSi⟩ := hrel
      simp only at hi HSi
      by_cases hlt : (i : Int) < 256
      · obtain ⟨r0, r1, r2, rf⟩ := blk3 HSi.out.p2.blk
        have hl1 := rows_max HOK.out i
        have hl2 := rows_max HOK.out (i + 1)
        have hup : upTo (rowOf es) (i + 1) = upTo (rowOf es) i ++ rowOf es i := rfl
        have hln : (rowOf es i).length ≤ 1000000 := by
          rw [hup, List.length_append] at hl2; have := HEL.out; omega
        have hlu : (upTo (rowOf es) i).length ≤ 1000000 := by have := HEL.out; omega
        have HLN := Lib.hid hln
        have HLU := Lib.hid hlu
        have HUP := Lib.hid hup
        clear hl1 hl2 hup hln hlu
        rcases HSi.out.p4.rmap_get (i : Int) frm fik fozero with ⟨hl, he, S2⟩ | ⟨o, hl, S2⟩
        case' inl =>
          have HE := Lib.hid he
          have HS2 := Lib.hid S2.rnone_back
          clear S2 HSi he
          go_wp2_with fail
          refine (ordAll_nil HS2.out).mono ?_
          rintro en w3 ⟨A, c, rfl, S3⟩
          obtain ⟨v', w4, hr, S4⟩ := (S3.p2).run_append_zero 32 32 Try.underlying32 fstrInfo rfl (by have := HLU.out; unfold maxLen; omega) (by have := HLU.out; omega) A c
          have S5 : Sat w0 w4 (row 9 1 v' (upTo (rowOf es) (i + 1)).length ((upTo (rowOf es) (i + 1)).map Value.string) * (pts b (.cells #[.map (some mb), .map (some rb), .int .u64 now] 80 (0, 0)) * (gmap Value.string mb (marksOf es) * (rmap rb (rowOf es) * R)))) := by
            rw [HUP.out, HE.out, List.append_nil]
            exact S4.cong (by ac_rfl)
          have HS5 := Lib.hid S5
          clear S3 S4 S5 HS2 r0 r1 r2 rf hl
          go_wp2_with (at_builtin; refine wpList_append_eq rfl _ _ _ _ rfl rfl rfl hr ?_)
        case' inr =>
          have HS2 := Lib.hid S2
          clear S2 HSi
          go_wp2_with fail
          refine (ordAll (by have := HLN.out; omega) HS2.out).mono ?_
          rintro en w3 ⟨v, rfl, S3⟩
          have T1 := Sat.rbut_close (g := rowOf es) (R := row 9 1 u3 (upTo (rowOf es) i).length ((upTo (rowOf es) i).map Value.string) * (row 9 1 v (rowOf es i).length ((rowOf es i).map Value.string) * (pts b (.cells #[.map (some mb), .map (some rb), .int .u64 now] 80 (0, 0)) * (gmap Value.string mb (marksOf es) * R)))) (fun _ _ => rfl) rfl (S3.cong (by ac_rfl))
          obtain ⟨v', w4, hr, S4⟩ := (T1.p2.p3.p2).run_append_row 32 32 Try.underlying32 fstrInfo rfl (by simp [Value.oneCell']) (by have := HLU.out; have := HLN.out; unfold maxLen; omega) (by have := HLU.out; have := HLN.out; omega)
          have S5 : Sat w0 w4 (row 9 1 v' (upTo (rowOf es) (i + 1)).length ((upTo (rowOf es) (i + 1)).map Value.string) * (pts b (.cells #[.map (some mb), .map (some rb), .int .u64 now] 80 (0, 0)) * (gmap Value.string mb (marksOf es) * (rmap rb (rowOf es) * R)))) := by
            rw [HUP.out, List.length_append, List.map_append]
            exact S4.p2.drop1.cong (by ac_rfl)
          have HS5 := Lib.hid S5
          clear S3 T1 S4 S5 HS2 r0 r1 r2 rf hl
          go_wp2_with (at_builtin; refine wpList_append_eq rfl _ _ _ _ rfl rfl rfl hr ?_)
        all_goals
          go_roundw
          case rel => exact ⟨(i + 1, v'), by simp, by simp only; omega, rfl, HS5⟩
          case measure => simp [intOf]; omega
      · have hi2 : i = 256 := by omega
        subst hi2
        clear hlt
        go_wp2_with fail
        go_ret
        exact ⟨_, rfl, (Sat.bk_shut (mb := mb) (rb := rb) HOK.out (R := row 9 1 _ _ _ * R) (HSi.out.cong (by unfold allOf; ac_rfl))).p2⟩
end Go.Sl
