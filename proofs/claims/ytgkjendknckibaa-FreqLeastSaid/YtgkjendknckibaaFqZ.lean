/-
  Package freq: the zero book.
-/
import Derived.Test.YtgkjendknckibaaFqH
namespace Go.Sl
open Go.RowKit Go.Proofs Go.Proofs.YtgkjendknckibaaW.PrintWords
set_option linter.unusedVariables false
set_option linter.unusedSimpArgs false
set_option maxRecDepth 100000
open Go.Proofs.YtgkjendknckibaaW.PrintMore in
attribute [local go_sem] min2_int min_two

/-- The zero book. -/
def zbk (b : Nat) : HP := pts b (.cells #[.map none, .map none, .int .u64 0] 80 (0, 0))
theorem zbLen {w0 w : World} {b : Nat} {R : HP} (S : Sat w0 w (zbk b * R)) :
    Calls Try.prog 37 #[pt b] w fun en w' => en = .returned (.int .i64 0) ∧ w' = w := by
  obtain ⟨c0, c1, c2, -⟩ := blk3 S.blk
  clear S
  go_enter Try.func37, Try.ntmps37
  go_wp2_with fail
  go_ret
  exact ⟨rfl, rfl⟩
theorem zbCount {w0 w : World} {b : Nat} {key : ByteArray} {R : HP} (S : Sat w0 w (zbk b * R)) :
    Calls Try.prog 30 #[pt b, .string key] w fun en w' => en = .returned (.int .i64 0) ∧ w' = w := by
  obtain ⟨c0, c1, c2, -⟩ := blk3 S.blk
  have hl := run_lookup_nil keys_string fmap fsk fzero w false key
  have hfl := ffield
  clear S
  go_enter Try.func30, Try.ntmps30
  go_wp2_with fail
  go_ret
  exact ⟨rfl, rfl⟩
theorem zbDrop {w0 w : World} {b : Nat} {key : ByteArray} {R : HP} (S : Sat w0 w (zbk b * R)) :
    Calls Try.prog 33 #[pt b, .string key] w fun en w' => en = .returned (.bool false) ∧ w' = w := by
  have HS := Lib.hid S
  clear S
  go_enter Try.func33, Try.ntmps33
  go_wp2_with fail
  refine (zbCount HS.out).mono ?_
  rintro en w1 ⟨rfl, rfl⟩
  go_wp2_with fail
  go_ret
  exact ⟨rfl, rfl⟩
theorem zbAll {w0 w : World} {b : Nat} {R : HP} (S : Sat w0 w (zbk b * R)) : Calls Try.prog 41 #[pt b] w fun en w' => en = .returned (.slice none 0 0) ∧ w' = w := by
  have HS := Lib.hid S
  clear S
  go_enter Try.func41, Try.ntmps41
  go_wp2_with fail
  refine (zbLen HS.out).mono ?_
  rintro en w1 ⟨rfl, rfl⟩
  go_wp2_with fail
  go_ret
  exact ⟨rfl, rfl⟩
theorem zbHalve {w0 w : World} {b : Nat} {R : HP} (S : Sat w0 w (zbk b * R)) : Calls Try.prog 35 #[pt b] w fun en w' => en = .returned (.int .i64 0) ∧ Sat w0 w' (zbk b * R) := by
  have S1 := (S.alloc (.cells #[pt b] 56))
  have c0 := (blk1 S1.blk).1
  have HS := Lib.hid S1.drop1
  clear S S1
  go_enter Try.func35, Try.ntmps35
  go_wp2_with fail
  refine (zbAll HS.out).mono ?_
  rintro en w1 ⟨rfl, rfl⟩
  go_wp2_with fail
  go_ret
  exact ⟨rfl, HS.out⟩
theorem zbLeast {w0 w : World} {b : Nat} {R : HP} (S : Sat w0 w (zbk b * R)) : Calls Try.prog 40 #[pt b] w fun en w' => en = .returned (.tuple #[.string ⟨#[]⟩, .bool false]) ∧ Sat w0 w' (zbk b * R) := by
  have HS := Lib.hid S
  clear S
  go_enter Try.func40, Try.ntmps40
  go_wp2_with fail
  go_loopw [7] (fun v7 wr => ∃ i : Nat, v7 = .int .i64 i ∧ i ≤ 256 ∧ Hid (Sat w0 wr (zbk b * R))) (fun v7 _ => 256 - (RowKit.intOf v7).toNat)
  case atStart => exact ⟨0, rfl, by omega, HS⟩
  case round =>
    clear HS
    obtain ⟨i, rfl, hi, HSi⟩ := hrel
    by_cases hlt : (i : Int) < 256
    · go_wp2_with fail
      refine (zbLen HSi.out).mono ?_
      rintro en w1 ⟨rfl, rfl⟩
      go_wp2_with fail
      go_ret2
      exact ⟨rfl, HSi.out⟩
    · go_wp2_with fail
      go_ret2
      exact ⟨rfl, HSi.out⟩
set_option maxHeartbeats 8000000 in
/-- 'Touch'. -/
theorem zbTouch_at {w0 w : World} {b : Nat} {key : ByteArray} {R : HP} {es : List Mk} {now : Int} (he : es = []) (hnow : now = 0) (S : Sat w0 w (zbk b * R)) :
    Calls Try.prog 29 #[pt b, .string key] w fun en w' => en = .returned (.int .i64 (upC (cntOf es key))) ∧ Sat w0 w' (bk b (touchM es key (now + 1)) (now + 1) * R) := by
  have HE0 := Lib.hid he
  have HN0 := Lib.hid hnow
  clear he hnow
  obtain ⟨c0, c1, c2, f0⟩ := blk3 S.blk
  have hq := feql none
  have HS := Lib.hid S
  clear S
  go_enter Try.func29, Try.ntmps29
  go_wp2_with fail
  refine (bkNew HS.out).mono ?_
  rintro en w1 ⟨o', rfl, S1⟩
  clear c0 c1 c2 f0 hq HS
  obtain ⟨mb', rb', hok', S2⟩ := S1.bk_open
  obtain ⟨a0, a1, a2, -⟩ := blk3 S2.blk
  obtain ⟨c0, c1, c2, f0⟩ := blk3 S2.p4.blk
  have HOK' := Lib.hid hok'
  have HS2 := Lib.hid S2
  clear S1 S2 hok'
  dsimp only
  go_upto_region 5 with (fail)
  clear a0 a1 a2 c0 c1 c2 f0
  refine gen_w (w0 := w0) (A := bk b [] 0 * R) ?_ ?_
  · have S3 := HS2.out.drop1.p3
    exact Sat.bk_shut (mb := mb') (rb := rb') HOK'.out (((S3.setCell (i := 0) (.map (some mb'))).setCell (i := 1) (.map (some rb'))).setCell (i := 2) (.int .u64 0))
  · clear HS2 HOK'
    intro w S
    have hn : now < 1000000 := by have := HN0.out; omega
    rw [← HE0.out, ← HN0.out] at S
    obtain ⟨mb, rb, hok, S1⟩ := S.bk_open
    have HOK := Lib.hid hok
    have hn0 := hok.n0
    obtain ⟨t, ht, hrow, hc0, hc1⟩ := touch_at hok key
    have HROW := Lib.hid hrow
    obtain ⟨r0, r1, r2, rf⟩ := blk3 S1.blk
    have hl := S1.p2.run_lookup keys_string fmap fsk fzero false key
    rw [if_neg (by decide), ht] at hl
    have hq := feql (some mb)
    obtain ⟨c, hc⟩ : ∃ c, c = cntOf es key := ⟨_, rfl⟩
    have HC := Lib.hid hc
    rw [← hc] at hl hc0 hc1 hrow HROW
    obtain ⟨xb, hxb⟩ : ∃ xb, xb = w.heap.size := ⟨_, rfl⟩
    have S2 := (S1.alloc (.cells #[.int .i64 c, .int .u64 t] 89)).p2
    rw [← hxb] at S2
    have HS := Lib.hid S2
    have HX := Lib.hid hxb
    clear S S1 S2 hxb hok ht hrow hc
    go_upto_region 6 with (fail)
    rw [← HX.out]
    clear r0 r1 r2 rf hl hq
    refine gen_w HS.out ?_
    clear HS HX
    intro w1 S1
    have cs := layCells S1
    have HS1 := Lib.hid S1
    rcases S1.drew.p4.rmap_get c frm fik fozero with ⟨hl, he, S2⟩ | ⟨o, hl, S2⟩
    case' inl =>
      have e1 : updR (rowOf es) c (dropK (rowOf es c) key) = rowOf es := by
        funext x; unfold updR
        by_cases e : x = c
        · subst e; rw [if_pos rfl, he]; rfl
        · rw [if_neg e]
      have HE := Lib.hid e1
      have HS2 := Lib.hid S2.rnone_back
      clear S1 S2 e1 he
      go_region_held3 (fun w' => w'.cell? ⟨b, 0, none⟩ = some (.map (some mb)) ∧ w'.cell? ⟨b, 1, none⟩ = some (.map (some rb)) ∧ w'.cell? ⟨b, 2, none⟩ = some (.int .u64 now) ∧ w'.cell? ⟨xb, 0, none⟩ = some (.int .i64 c) ∧ w'.cell? ⟨xb, 1, none⟩ = some (.int .u64 t))
        (first | exact layCells HS1.out.drew | exact layCells HS1.out)
        ((go_at_call 50; refine (ordDrop_nil _ _).mono ?_; rintro en w' ⟨rfl, rfl⟩))
      have S3 := HS2.out
      rw [← HE.out, HROW.out] at S3
      have HS3 := Lib.hid S3
      clear S3 HS2 HE
    case' inr =>
      have HS2 := Lib.hid S2
      clear S1 S2
      go_region_held3 (fun w' => w'.cell? ⟨b, 0, none⟩ = some (.map (some mb)) ∧ w'.cell? ⟨b, 1, none⟩ = some (.map (some rb)) ∧ w'.cell? ⟨b, 2, none⟩ = some (.int .u64 now) ∧ w'.cell? ⟨xb, 0, none⟩ = some (.int .i64 c) ∧ w'.cell? ⟨xb, 1, none⟩ = some (.int .u64 t))
        (first | exact layCells HS3.out.p3.p4.p2 | exact layCells HS1.out.drew | exact layCells HS1.out)
        ((go_at_call 50; refine (ordDrop HS2.out).mono ?_; rintro en w3 ⟨rfl, S3⟩; have HS3 := Lib.hid S3; clear S3))
      have S3 := HS3.out.rbut_close (g := updR (rowOf es) c (dropK (rowOf es c) key)) (fun n' hne => by unfold updR; rw [if_neg hne]) (by unfold updR; rw [if_pos rfl])
      rw [HROW.out] at S3
      clear HS3
      have HS3 := Lib.hid S3
      clear S3 HS2
    all_goals
      clear cs hl HS1
      go_upto_region 7 with (fail)
      refine gen_w HS3.out ?_
      clear HS3
      intro w5 S5
      obtain ⟨r0, r1, r2, rf⟩ := blk3 S5.p2.blk
      obtain ⟨a0, a1, af⟩ := blk2 S5.p3.blk
      have hwr : IntKind.u64.wrap (now + 1) = now + 1 := by
        rw [show IntKind.u64.wrap (now + 1) = (now + 1) % 18446744073709551616 from by simp [IntKind.wrap, IntKind.bits, IntKind.signed]]; omega
      have HS5 := Lib.hid ((S5.p2.setCell (i := 2) (.int .u64 (now + 1))).p3)
      clear S5
      go_upto_region 8 with (fail)
      clear r0 r1 r2 rf a0 a1 af
      refine gen_w HS5.out ?_
      clear HS5
      intro w6 S6
      obtain ⟨r0, r1, r2, rf⟩ := blk3 S6.p2.blk
      obtain ⟨a0, a1, af⟩ := blk2 S6.blk
      have hw1 : wrap64 (c + 1) = c + 1 := by unfold wrap64; omega
      obtain ⟨u, hu⟩ : ∃ u, u = upC c := ⟨_, rfl⟩
      have hmin : (if (255 : Int) < c + 1 then (255 : Int) else c + 1) = u := by rw [hu]; rfl
      have HU := Lib.hid hu
      have S7 := ((S6.setCell (i := 0) (.int .i64 u)).setCell (i := 1) (.int .u64 (now + 1))).drew
      have HS7 := Lib.hid S7
      clear S6 S7 hu
      go_region
      have S8 : Sat w0 _ (pts b (.cells #[.map (some mb), .map (some rb), .int .u64 (now + 1)] 80 (0, 0)) * (gmap Value.string mb (marksOf es) * (rmap rb (rowOf (lessM es key)) * (pts xb (.cells #[.int .i64 u, .int .u64 (now + 1)] 89 (0, 0)) * R)))) := HS7.out.cong (by ac_rfl)
      have HS8 := Lib.hid S8
      clear S8 HS7
      go_wp2_with fail
      clear r0 r1 r2 rf a0 a1 af hw1 hmin
      refine (lay_calls HS8.out).mono ?_
      rintro en w8 ⟨⟨v, rfl⟩, S9⟩
      obtain ⟨a0, a1, af⟩ := blk2 S9.p4.blk
      rw [touch_rows, gmap_perm marks_ins] at S9
      have hes : lessM es key ++ [⟨key, u, now + 1⟩] = touchM es key (now + 1) := by unfold touchM; rw [HU.out, HC.out]
      rw [hes] at S9
      have S10 := Sat.bk_shut (mb := mb) (rb := rb) (R := R) (HOK.out.touch key hn) (S9.p4.drop1.cong (by ac_rfl))
      have HS10 := Lib.hid S10
      clear S9 S10 HS8 hes
      go_wp2_with fail
      go_ret
      exact ⟨by rw [← HC.out, ← HU.out]; rfl, HS10.out⟩
theorem zbTouch {w0 w : World} {b : Nat} {key : ByteArray} {R : HP} (S : Sat w0 w (zbk b * R)) :
    Calls Try.prog 29 #[pt b, .string key] w fun en w' => en = .returned (.int .i64 1) ∧ Sat w0 w' (bk b [⟨key, 1, 1⟩] 1 * R) := zbTouch_at rfl rfl S
end Go.Sl
