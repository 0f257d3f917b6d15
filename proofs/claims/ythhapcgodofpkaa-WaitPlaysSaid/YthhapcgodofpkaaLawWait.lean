/-
  Layer 38: 'alive'.
-/
import Derived.Test.YthhapcgodofpkaaWaitF
namespace Go.Sl
open Go.RowKit Go.Proofs Go.Proofs.YthhapcgodofpkaaW.PrintWords
set_option linter.unusedVariables false
set_option linter.unusedSimpArgs false
set_option maxRecDepth 100000

theorem reads_row {w0 : World} {g c : Nat} {ks : List ByteArray} : Reads w0 (row 9 1 (.slice (some ⟨g, 0, none⟩) ks.length c) ks.length (ks.map Value.string)) ⟨g, 0, none⟩ ks := fun w Y S => Sat.row_at rfl S
theorem reads_old {w0 : World} {ad : Addr} {ks : List ByteArray} (h : Kd.C Kd.string w0 (some ad) ks.length ks) : Reads w0 (old w0) ad ks := fun w Y S => Kd.C_below h S.old

set_option maxHeartbeats 8000000 in
theorem aliveWait {w0 w : World} {R : HP} (S : Sat w0 w R) :
    Calls Try.prog 5 #[] w fun en w' => en = .returned (.bool true) ∧ Sat w0 w' R := by
  have HS := Lib.hid S
  clear S
  go_enter Try.func5, Try.ntmps5
  go_wp2_with fail
  refine (wtNew HS.out).mono ?_
  rintro en w1 ⟨r, rfl, S1⟩
  have HS1 := Lib.hid (S1.row_new (e := 9) (sz := 1) (n := 2) (cur := #[.string ⟨#[97]⟩, .string ⟨#[98]⟩]) (by simp) (by unfold maxLen; omega)).p2
  obtain ⟨b1, hb1⟩ : ∃ b, b = w1.heap.size := ⟨_, rfl⟩
  rw [← hb1] at HS1
  have HB := Lib.hid hb1
  clear HS S1 hb1
  go_wp2_with fail
  rw [← HB.out]
  refine (wtAdd_new (ks := [⟨#[97]⟩, ⟨#[98]⟩]) (by decide) (by decide) reads_row (by omega) rfl HS1.out).mono ?_
  rintro en w2 ⟨rfl, g5, c5, S2⟩
  have HS2 := Lib.hid (S2.p2.drop1.row_new (e := 9) (sz := 1) (n := 1) (cur := #[.string ⟨#[98]⟩]) (by simp) (by unfold maxLen; omega)).p2
  obtain ⟨b2, hb2⟩ : ∃ b, b = w2.heap.size := ⟨_, rfl⟩
  rw [← hb2] at HS2
  have HB2 := Lib.hid hb2
  clear HS1 S2 hb2 HB
  go_wp2_with fail
  rw [← HB2.out]
  refine (wtAdd_new (ks := [⟨#[98]⟩]) (by decide) (by decide) reads_row (by omega) rfl HS2.out).mono ?_
  rintro en w3 ⟨rfl, g6, c6, S3⟩
  generalize hps : ([] : List Pl) ++ [⟨0 + 1, 5, [⟨#[97]⟩, ⟨#[98]⟩], g5, c5, false, false, ⟨#[]⟩, false, 0⟩] ++ [⟨0 + 1 + 1, 6, [⟨#[98]⟩], g6, c6, false, false, ⟨#[]⟩, false, 0⟩] = ps at S3
  have HPS := Lib.hid hps
  have HS3 := Lib.hid (S3.p2.drop1.row_new (e := 9) (sz := 1) (n := 1) (cur := #[.string ⟨#[99]⟩]) (by simp) (by unfold maxLen; omega)).p2
  obtain ⟨b3, hb3⟩ : ∃ b, b = w3.heap.size := ⟨_, rfl⟩
  rw [← hb3] at HS3
  have HB3 := Lib.hid hb3
  clear HS2 S3 hb3 HB2 hps
  go_wp2_with fail
  rw [← HB3.out]
  refine (wtAdd_old (by decide) (by rw [← HPS.out]; rfl) HS3.out).mono ?_
  rintro en w4 ⟨rfl, S4⟩
  have HS4 := Lib.hid S4.p2.drop1
  clear HS3 S4 HB3
  go_wp2_with fail
  refine (wtFirst_some (p := ⟨0 + 1, 5, [⟨#[97]⟩, ⟨#[98]⟩], g5, c5, false, false, ⟨#[]⟩, false, 0⟩) (by rw [← HPS.out]; rfl) HS4.out).mono ?_
  rintro en w5 ⟨q5, hq5, hk5, rfl, S5⟩
  simp only at hq5
  have S5a := S5.drop1.alloc (.cells #[.int .i64 q5.h, q5.e, .bool q5.f2, .bool q5.f3, .string q5.f4, .bool q5.f5, .int .i64 q5.f6] 30)
  rw [hq5] at S5a
  obtain ⟨xb, hxb⟩ : ∃ b, b = w5.heap.size := ⟨_, rfl⟩
  rw [← hxb] at S5a
  have HS5 := Lib.hid S5a.p2
  have HXB := Lib.hid hxb
  clear HS4 S5 S5a hk5 hxb
  unfold Pl.wv
  rw [hq5]
  clear hq5
  go_wp2_with fail
  rw [← HXB.out]
  clear HXB
  refine (wtDrop_some (p := ⟨0 + 1, 5, [⟨#[97]⟩, ⟨#[98]⟩], g5, c5, false, false, ⟨#[]⟩, false, 0⟩) (by rw [← HPS.out]; simp) HS5.out).mono ?_
  rintro en w6 ⟨rfl, S6⟩
  have HS6 : Hid (Sat w0 w6 _) := Lib.hid S6.p2.drop1
  clear HS5 S6
  unfold Pl.wv
  go_wp2_with fail
  have HS6a := Lib.hid ((HS6.out.alloc (.cells #[.int .i64 5, .slice (some ⟨g5, 0, none⟩) 2 c5, .bool false, .bool false, .string ⟨#[]⟩, .bool false, .int .i64 0] 30)).drop1)
  clear HS6
  refine (wtFirst_some (p := ⟨0 + 1 + 1, 6, [⟨#[98]⟩], g6, c6, false, false, ⟨#[]⟩, false, 0⟩) (by rw [← HPS.out]; rfl) HS6a.out).mono ?_
  rintro en w7 ⟨q6, hq6, hk6, rfl, S7⟩
  simp only at hq6
  have S7a := S7.drop1.alloc (.cells #[.int .i64 q6.h, q6.e, .bool q6.f2, .bool q6.f3, .string q6.f4, .bool q6.f5, .int .i64 q6.f6] 30)
  rw [hq6] at S7a
  have hx0 := (blk7 S7.p3.blk).1
  have hxlt := S7.p3.lt
  have HS7 := Lib.hid S7a.p2
  clear HS6a S7 S7a hk6
  unfold Pl.wv
  rw [hq6]
  clear hq6
  go_wp2_with fail
  refine (wtLen HS7.out).mono ?_
  rintro en w8 ⟨rfl, rfl⟩
  have hlen : ((dropH ps 5).length : Int) = 1 := by rw [← HPS.out]; rfl
  rw [hlen]
  have HS8 := Lib.hid HS7.out.drop1.drop1.drop1
  clear HS7 hlen
  go_wp2_with fail
  go_ret
  exact ⟨rfl, HS8.out⟩
end Go.Sl
