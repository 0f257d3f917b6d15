/-
  'mewslaw24.ZsetPlays' answers true at every input: whatever is put, added to, dropped and popped, each answer, and all members, is the document's. No condition.
  'mewslaw24.ZsetPlays': the walk, for the row.
  'mewslaw24.ZsetPlays': the walk.
  The document's answer for layer 24, by contract: Score, Put, Add, Drop, Rank, Pop.
  Sorted sets: Add, Pop.
-/
import Derived.Test.YteakblblpiihpaaMgF
import Derived.Test.YteakblblpiihpaaMgE
import Derived.Deep.RegionHeld3
import Derived.Deep.DeepCutAuto
import Derived.Test.YteakblblpiihpaaRows
import Derived.WalkKit
import Derived.ProofKit
import Derived.OpenShut
import Derived.ShutString
import Derived.ChangeOld
import Derived.Below
import Derived.SizedLaws
import Derived.Carry
/-! ### ZsI -/
namespace Go.Sl
open Go.RowKit Go.Proofs Go.Sl Go.Proofs.YteakblblpiihpaaW.PrintWords Go.Proofs.Yteakblblpiihpaa.PZs Go.Sl.DI64
set_option linter.unusedVariables false
set_option linter.unusedSimpArgs false
set_option maxRecDepth 100000

/-- Two numbers added: there is room. -/
def fits (a b : Int) : Bool := decide (-9223372036854775808 ≤ a + b ∧ a + b ≤ 9223372036854775807)
theorem numAdd_f {a b : Int} (ha : -9223372036854775808 ≤ a ∧ a ≤ 9223372036854775807) (hb : -9223372036854775808 ≤ b ∧ b ≤ 9223372036854775807) : num_Add.f a b = some (if fits a b then (a + b, true) else (0, false)) := by
  unfold num_Add.f fits
  by_cases h : -9223372036854775808 ≤ a + b ∧ a + b ≤ 9223372036854775807
  · have hw : wrap64 (a + b) = a + b := by unfold wrap64; omega
    rw [hw, decide_eq_true h, if_pos rfl]
    by_cases h2 : b > 0
    · rw [if_neg]
      have : a + b > a := by omega
      simp [this, h2]
    · have : ¬ a + b > a := by omega
      rw [if_neg]
      simp [this, h2]
  · rw [decide_eq_false h, show (if (false = true) then (a + b, true) else ((0 : Int), false)) = ((0 : Int), false) from rfl]
    have hw : wrap64 (a + b) = if a + b < 0 then a + b + 18446744073709551616 else a + b - 18446744073709551616 := by unfold wrap64; split <;> omega
    rw [hw]
    by_cases e : a + b < 0
    · rw [if_pos e]
      have h1 : a + b + 18446744073709551616 > a := by omega
      have h2 : ¬ b > 0 := by omega
      rw [if_pos (by simp [h1, h2]), if_neg (by omega)]
    · rw [if_neg e]
      have h1 : ¬ a + b - 18446744073709551616 > a := by omega
      have h2 : b > 0 := by omega
      rw [if_pos (by simp [h1, h2]), if_neg (by omega)]
theorem refAdd_f {a b : Int} (ha : -9223372036854775808 ≤ a ∧ a ≤ 9223372036854775807) (hb : -9223372036854775808 ≤ b ∧ b ≤ 9223372036854775807) : mewsref01_Add.f a b = some (if fits a b then (a + b, true) else (0, false)) := by
  unfold mewsref01_Add.f fits
  have w1 : b > 0 → wrap64 (9223372036854775807 - b) = 9223372036854775807 - b := fun h => by unfold wrap64; omega
  have w2 : b < 0 → wrap64 ((-9223372036854775808) - b) = -9223372036854775808 - b := fun h => by unfold wrap64; omega
  by_cases h : -9223372036854775808 ≤ a + b ∧ a + b ≤ 9223372036854775807
  · have hw : wrap64 (a + b) = a + b := by unfold wrap64; omega
    rw [hw, decide_eq_true h, if_pos rfl]
    by_cases h2 : b > 0
    · rw [if_pos h2, w1 h2, if_neg (by omega), if_neg (by omega)]
    · rw [if_neg h2]
      by_cases h3 : b < 0
      · rw [if_pos h3, w2 h3, if_neg (by omega)]
      · rw [if_neg h3]
  · rw [decide_eq_false h, show (if (false = true) then (a + b, true) else ((0 : Int), false)) = ((0 : Int), false) from rfl]
    by_cases h2 : b > 0
    · rw [if_pos h2, w1 h2, if_pos (by omega)]
    · have h3 : b < 0 := by omega
      rw [if_neg h2, if_pos h3, w2 h3, if_pos (by omega)]
/-- What 'Add' leaves, and tells. -/
def scO' (l : List Sc) (m : ByteArray) : Int := (findS l m).getD 0
def addL (l : List Sc) (m : ByteArray) (by_ : Int) : List Sc := if fits (scO' l m) by_ then putS l ⟨m, scO' l m + by_⟩ else l
def addN (l : List Sc) (m : ByteArray) (by_ : Int) : Int := if fits (scO' l m) by_ then scO' l m + by_ else 0
def addE (l : List Sc) (m : ByteArray) (by_ : Int) : Int := if fits (scO' l m) by_ then 0 else 13
/-- Scores are numbers of 64 bits. -/
def okS (l : List Sc) : Prop := ∀ x ∈ l, -9223372036854775808 ≤ x.f1 ∧ x.f1 ≤ 9223372036854775807
theorem okS_find {l : List Sc} (h : okS l) (m : ByteArray) : -9223372036854775808 ≤ scO' l m ∧ scO' l m ≤ 9223372036854775807 := by
  unfold scO'
  cases hf : findS l m with
  | none => simp
  | some v =>
    unfold findS at hf
    obtain ⟨x, hx, rfl⟩ := Option.map_eq_some_iff.1 hf
    exact h x (List.mem_of_find?_eq_some hx)
theorem okS_put {l : List Sc} {x : Sc} (h : okS l) (hx : -9223372036854775808 ≤ x.f1 ∧ x.f1 ≤ 9223372036854775807) : okS (putS l x) := fun y hy => by
  rcases List.mem_cons.1 ((put_perm l x).mem_iff.1 hy) with rfl | hy
  · exact hx
  · exact h y (List.mem_filter.1 hy).1
theorem okS_add {l : List Sc} (h : okS l) (m : ByteArray) (b : Int) : okS (addL l m b) := by
  unfold addL
  split
  · rename_i hf
    unfold fits at hf
    exact okS_put h (of_decide_eq_true hf)
  · exact h
set_option maxHeartbeats 4000000 in
/-- 'Add'. -/
theorem zsAdd {w0 w : World} {s : Nat} {l : List Sc} {m : ByteArray} {b : Int} {R : HP} (hm : m.size ≤ maxLen) (hb : l.length < 1000000) (ho : okS l) (h64 : -9223372036854775808 ≤ b ∧ b ≤ 9223372036854775807) (S : Sat w0 w (zs s l * R)) :
    Calls Try.prog 26 #[pt s, .string m, .int .i64 b] w fun en w' => en = .returned (.tuple #[.int .i64 (addN l m b), .int .i64 (addE l m b)]) ∧ Sat w0 w' (zs s (addL l m b) * R) := by
  obtain ⟨nn, hnn⟩ : ∃ nn, nn = addN l m b := ⟨_, rfl⟩
  obtain ⟨ee, hee⟩ : ∃ ee, ee = addE l m b := ⟨_, rfl⟩
  rw [← hnn, ← hee]
  have HF := Lib.hid (numAdd_f (okS_find ho m) h64)
  obtain ⟨sc, hsc⟩ : ∃ sc, sc = scO' l m := ⟨_, rfl⟩
  rw [← hsc] at HF
  have HSV : Hid (scoreV l m = .tuple #[.int .i64 sc, .bool (findS l m).isSome]) := Lib.hid (by rw [hsc]; rfl)
  have HNN := Lib.hid hnn
  have HEE := Lib.hid hee
  have HSC := Lib.hid hsc
  have HM := Lib.hid hm
  have HB := Lib.hid hb
  have HS := Lib.hid S
  clear S hm hb ho h64 hnn hee hsc
  go_enter Try.func26, Try.ntmps26
  go_wp2_with fail
  refine (zsReady HS.out).mono ?_
  rintro en w' ⟨rfl, rfl⟩
  go_wp2_with fail
  refine (zsScore HM.out HS.out).mono ?_
  rintro en w1 ⟨rfl, S1⟩
  rw [HSV.out]
  have HS1 := Lib.hid S1
  clear S1 HS
  go_wp2_with fail
  cases hf : fits sc b with
  | false =>
    have HG : Hid (num_Add.f sc b = some (0, false)) := Lib.hid (by rw [HF.out, hf]; rfl)
    have HFB := Lib.hid hf
    clear hf
    refine (num_Add.calls sc b 0 false w1 HG.out).mono ?_
    rintro en w2 ⟨rfl, hd⟩
    have HS2 := Lib.hid (drawn_satZ HS1.out hd)
    clear hd HS1
    go_wp2_with fail
    go_ret2
    refine ⟨by rw [HNN.out, HEE.out]; unfold addN addE; rw [← HSC.out, HFB.out]; rfl, ?_⟩
    have : addL l m b = l := by unfold addL; rw [← HSC.out, HFB.out]; rfl
    rw [this]
    exact HS2.out
  | true =>
    have HG : Hid (num_Add.f sc b = some (sc + b, true)) := Lib.hid (by rw [HF.out, hf]; rfl)
    have HFB := Lib.hid hf
    clear hf
    refine (num_Add.calls sc b (sc + b) true w1 HG.out).mono ?_
    rintro en w2 ⟨rfl, hd⟩
    have HS2 := Lib.hid (drawn_satZ HS1.out hd)
    clear hd HS1
    go_wp2_with fail
    refine (zsPut HM.out HB.out HS2.out).mono ?_
    rintro en w3 ⟨rfl, S3⟩
    have HS3 := Lib.hid S3
    clear S3 HS2
    go_wp2_with fail
    go_ret2
    refine ⟨by rw [HNN.out, HEE.out]; unfold addN addE; rw [← HSC.out, HFB.out]; rfl, ?_⟩
    have : addL l m b = putS l ⟨m, sc + b⟩ := by unfold addL; rw [← HSC.out, HFB.out]; rfl
    rw [this]
    exact HS3.out
/-- Popped: the first ones from an end, and what stays. -/
def popT (l : List Sc) (back : Bool) (count : Int) : List Sc := (wayS l back).take count.toNat
def popL (l : List Sc) (back : Bool) (count : Int) : List Sc := outsS l ((popT l back count).map (·.f0))
theorem span_pop (l : List Sc) (back : Bool) {count : Int} (h : 1 ≤ count) : spanS l 0 (count - 1) back = popT l back count := by
  unfold spanS cutS popT
  have hw := wayS_length l back
  have e0 : spF l.length 0 = 0 := by unfold spF; rw [if_neg (by omega)]
  have e1 : spT l.length (count - 1) = min (count - 1) ((l.length : Int) - 1) := by unfold spT; rw [if_neg (by omega)]
  rw [e0, e1]
  by_cases e : l.length = 0
  · have : wayS l back = [] := List.eq_nil_of_length_eq_zero (by omega)
    rw [this]
    simp
  · rw [if_neg (by omega)]
    simp only [Int.toNat_zero, List.drop_zero]
    by_cases e2 : count ≤ l.length
    · congr 1
      omega
    · rw [List.take_of_length_le (by omega), List.take_of_length_le (by omega)]
set_option maxHeartbeats 8000000 in
/-- 'Pop'. -/
theorem zsPop {w0 w : World} {s : Nat} {back : Bool} {count : Int} {l : List Sc} {R : HP} (h64 : -9223372036854775808 ≤ count ∧ count ≤ 9223372036854775807) (S : Sat w0 w (zs s l * R)) :
    Calls Try.prog 30 #[pt s, .bool back, .int .i64 count] w fun en w' => ∃ v, en = .returned v ∧ Sat w0 w' (rS v (popT l back count) * (zs s (popL l back count) * R)) := by
  by_cases hc : count < 1
  · have hcd : decide (count < 1) = true := by simpa using hc
    have HE : Hid (popT l back count = []) := Lib.hid (by unfold popT; rw [show count.toNat = 0 by omega]; rfl)
    have HS := Lib.hid S
    clear S hc
    go_enter Try.func30, Try.ntmps30
    go_wp2_with fail
    go_ret
    refine ⟨_, rfl, ?_⟩
    have : popL l back count = l := by unfold popL; rw [HE.out]; rfl
    rw [this, HE.out]
    exact HS.out.row_nil _ _
  have hcd : decide (count < 1) = false := by simpa using hc
  obtain ⟨T, hT⟩ : ∃ T, T = popT l back count := ⟨_, rfl⟩
  have hsp := span_pop l back (show 1 ≤ count by omega)
  have HSP : Hid (spanS l 0 (count - 1) back = T) := Lib.hid (by rw [hT]; exact hsp)
  have HPL : Hid (popL l back count = outsS l (T.map (·.f0))) := Lib.hid (by unfold popL; rw [← hT])
  have hz := S.zs_ok
  have hTl : T.length ≤ l.length := by rw [hT]; unfold popT; rw [List.length_take, wayS_length]; omega
  have hTb : (T.length : Int) ≤ 1000000 := by have := hz.big; omega
  have HTM : Hid (∀ x ∈ T, x.f0.size ≤ maxLen) := Lib.hid (fun x hx => by
    rw [hT] at hx
    have := List.mem_of_mem_take hx
    unfold wayS at this
    split at this
    · exact hz.sz x (List.mem_reverse.1 this)
    · exact hz.sz x this)
  rw [← hT]
  have HS := Lib.hid S
  clear S hT hsp hz hTl
  go_enter Try.func30, Try.ntmps30
  go_wp2_with fail
  refine (zsSpan (by omega) (by omega) (by omega) (by omega) HS.out).mono ?_
  rintro en w1 ⟨v, rfl, S1⟩
  rw [HSP.out] at S1
  obtain ⟨A, c, rfl, -, -⟩ := Sat.row_C flatS rfl S1
  have HS1 : Hid (Sat w0 w1 (rS (.slice A T.length c) T * (zs s (outsS l ((T.take 0).map (·.f0))) * R))) := Lib.hid S1
  clear S1 HS
  go_wp2_with fail
  go_loopw [19] (fun v19 wr => ∃ i : Nat, v19 = .int .i64 i ∧ i ≤ T.length ∧ Hid (Sat w0 wr (rS (.slice A T.length c) T * (zs s (outsS l ((T.take i).map (·.f0))) * R)))) (fun v19 _ => T.length - (RowKit.intOf v19).toNat)
  case atStart => exact ⟨0, rfl, by omega, HS1⟩
  case round =>
    clear HS1
    obtain ⟨i, rfl, hi, HSi⟩ := hrel
    by_cases hlt : i < T.length
    · obtain ⟨g, e1, x0, x1⟩ := HSi.out.rS_two hlt
      subst e1
      obtain ⟨x, hx⟩ : ∃ x, x = T[i] := ⟨_, rfl⟩
      rw [← hx] at x0 x1
      have HX : Hid (outsS l ((T.take (i + 1)).map (·.f0)) = outsS (outsS l ((T.take i).map (·.f0))) [x.f0]) := Lib.hid (by
        rw [List.take_add_one, List.getElem?_eq_getElem hlt, ← hx]
        unfold outsS
        rw [Option.toList_some, List.map_append, List.foldl_append]
        rfl)
      have HXM : Hid (∀ m ∈ [x.f0], m.size ≤ maxLen) := Lib.hid (fun m hm => by
        rw [List.mem_singleton] at hm
        rw [hm, hx]
        exact HTM.out _ (List.getElem_mem hlt))
      obtain ⟨xb, hxb⟩ : ∃ xb, xb = wr.heap.size := ⟨_, rfl⟩
      have SA := HSi.out.alloc (.cells #[.string x.f0, .int .i64 x.f1] 30)
      rw [← hxb] at SA
      have HSA := Lib.hid SA
      have HXB := Lib.hid hxb
      clear SA hxb HSi hx
      go_upto_region 7 with (fail)
      rw [← HXB.out]
      clear x0 x1
      refine gen_w HSA.out ?_
      clear HSA HXB
      intro wq SB
      obtain ⟨b0, b1, -⟩ := blk2 SB.blk
      have S2 : Sat w0 (wq.alloc (.cells #[.string x.f0] 9)) (rT (.slice (some ⟨wq.heap.size, 0, none⟩) [x.f0].length 1) [x.f0] * _) := Sat.row_new (e := 9) (sz := 1) (n := 1) SB rfl (by decide)
      have HS2 : Hid (Sat w0 (wq.alloc (.cells #[.string x.f0] 9)) (zs s (outsS l ((T.take i).map (·.f0))) * (rT (.slice (some ⟨wq.heap.size, 0, none⟩) [x.f0].length 1) [x.f0] * (rS (.slice (some ⟨g, 0, none⟩) T.length c) T * R)))) := Lib.hid ((S2.cong (B := pts xb (.cells #[.string x.f0, .int .i64 x.f1] 30 (0, 0)) * (zs s (outsS l ((T.take i).map (·.f0))) * (rT (.slice (some ⟨wq.heap.size, 0, none⟩) [x.f0].length 1) [x.f0] * (rS (.slice (some ⟨g, 0, none⟩) T.length c) T * R)))) (by ac_rfl)).drop1)
      clear SB S2
      go_wp2_with fail
      refine (zsDrop HXM.out (by simp) HS2.out).mono ?_
      rintro en w3 ⟨rfl, S3⟩
      rw [← HX.out] at S3
      have HS3 : Hid (Sat w0 w3 (rS (.slice (some ⟨g, 0, none⟩) T.length c) T * (zs s (outsS l ((T.take (i + 1)).map (·.f0))) * R))) := Lib.hid (S3.p2.drop1.p2)
      clear S3 HS2 b0 b1
      go_wp2_with fail
      go_roundw
      case rel => exact ⟨i + 1, by simp, by omega, HS3⟩
      case measure => simp [RowKit.intOf]; omega
    · have hi2 : i = T.length := by omega
      have HIE : Hid (T.take i = T) := Lib.hid (by rw [hi2, List.take_of_length_le (Nat.le_refl _)])
      rw [HIE.out, ← HPL.out] at HSi
      go_wp2_with fail
      go_ret
      exact ⟨_, rfl, HSi.out⟩
end Go.Sl
/-! ### RzB -/
namespace Go.Sl
open Go.RowKit Go.Proofs Go.Sl Go.Proofs.YteakblblpiihpaaW.PrintWords Go.Proofs.Yteakblblpiihpaa.PZs Go.Sl.DI64
set_option linter.unusedVariables false
set_option linter.unusedSimpArgs false
set_option maxRecDepth 100000

theorem rScore24 {w0 w : World} {v : Value} {l : List Sc} {m : ByteArray} {R : HP} (hb : l.length ≤ 1000000) (S : Sat w0 w (rS v l * R)) :
    Calls Try.prog 32 #[v, .string m] w fun en w' => en = .returned (scoreV l m) ∧ Sat w0 w' (rS v l * R) := by
  obtain ⟨A, c, rfl, hc, hC⟩ := Sat.row_C flatS rfl S
  refine (mewsref24_Score.calls (l.length + 1) A c l m _ _ w hC hc (score_f m hb)).mono ?_
  rintro en w' ⟨rfl, hd⟩
  exact ⟨rfl, S.below (by first | exact hd | exact hd.below)⟩
set_option maxHeartbeats 4000000 in
/-- 'R.Put'. -/
theorem rPut24 {w0 w : World} {v : Value} {l : List Sc} {m : ByteArray} {n : Int} {R : HP} (hz : ZOk l) (hb : l.length < 1000000) (S : Sat w0 w (rS v l * R)) :
    Calls Try.prog 25 #[v, .string m, .int .i64 n] w fun en w' => ∃ u, en = .returned (.tuple #[u, .bool (!(findS l m).isSome)]) ∧ Sat w0 w' (rS u (putS l ⟨m, n⟩) * R) := by
  obtain ⟨bs, hbs⟩ : ∃ bs, bs = (findS l m).isSome := ⟨_, rfl⟩
  obtain ⟨sc, hsc⟩ : ∃ sc, sc = (findS l m).getD 0 := ⟨_, rfl⟩
  have HSV : Hid (scoreV l m = .tuple #[.int .i64 sc, .bool bs]) := Lib.hid (by rw [hbs, hsc])
  rw [← hbs]
  have HS := Lib.hid S
  have HZ := Lib.hid hz
  have HB := Lib.hid hb
  clear S hz hb hbs hsc
  go_enter Try.func25, Try.ntmps25
  go_wp2_with fail
  refine (rScore24 (Nat.le_of_lt HB.out) HS.out).mono ?_
  rintro en w1 ⟨rfl, S1⟩
  have HS1 := Lib.hid S1
  clear S1 HS
  rw [HSV.out]
  go_wp2_with fail
  refine (rScoreC (x := ⟨m, n⟩) HZ.out HB.out HS1.out).mono ?_
  rintro en w2 ⟨u, rfl, S2⟩
  have HS2 := Lib.hid S2
  clear S2 HS1
  go_wp2_with fail
  go_ret2
  exact ⟨u, rfl, HS2.out⟩
set_option maxHeartbeats 4000000 in
/-- 'R.Add'. -/
theorem rAdd24 {w0 w : World} {v : Value} {l : List Sc} {m : ByteArray} {b : Int} {R : HP} (hz : ZOk l) (hb : l.length < 1000000) (ho : okS l) (h64 : -9223372036854775808 ≤ b ∧ b ≤ 9223372036854775807) (S : Sat w0 w (rS v l * R)) :
    Calls Try.prog 27 #[v, .string m, .int .i64 b] w fun en w' => ∃ u, en = .returned (.tuple #[u, .int .i64 (addN l m b), .int .i64 (addE l m b)]) ∧ Sat w0 w' (rS u (addL l m b) * R) := by
  obtain ⟨nn, hnn⟩ : ∃ nn, nn = addN l m b := ⟨_, rfl⟩
  obtain ⟨ee, hee⟩ : ∃ ee, ee = addE l m b := ⟨_, rfl⟩
  rw [← hnn, ← hee]
  have HF := Lib.hid (refAdd_f (okS_find ho m) h64)
  obtain ⟨sc, hsc⟩ : ∃ sc, sc = scO' l m := ⟨_, rfl⟩
  rw [← hsc] at HF
  have HSV : Hid (scoreV l m = .tuple #[.int .i64 sc, .bool (findS l m).isSome]) := Lib.hid (by rw [hsc]; rfl)
  have HNN := Lib.hid hnn
  have HEE := Lib.hid hee
  have HSC := Lib.hid hsc
  have HZ := Lib.hid hz
  have HB := Lib.hid hb
  have HS := Lib.hid S
  clear S hz hb ho h64 hnn hee hsc
  go_enter Try.func27, Try.ntmps27
  go_wp2_with fail
  refine (rScore24 (Nat.le_of_lt HB.out) HS.out).mono ?_
  rintro en w1 ⟨rfl, S1⟩
  rw [HSV.out]
  have HS1 := Lib.hid S1
  clear S1 HS
  go_wp2_with fail
  cases hf : fits sc b with
  | false =>
    have HG : Hid (mewsref01_Add.f sc b = some (0, false)) := Lib.hid (by rw [HF.out, hf]; rfl)
    have HFB := Lib.hid hf
    clear hf
    refine (mewsref01_Add.calls sc b 0 false w1 HG.out).mono ?_
    rintro en w2 ⟨rfl, hd⟩
    have HS2 := Lib.hid (drawn_satZ HS1.out hd)
    clear hd HS1
    go_wp2_with fail
    go_ret3
    refine ⟨v, by rw [HNN.out, HEE.out]; unfold addN addE; rw [← HSC.out, HFB.out]; rfl, ?_⟩
    have : addL l m b = l := by unfold addL; rw [← HSC.out, HFB.out]; rfl
    rw [this]
    exact HS2.out
  | true =>
    have HG : Hid (mewsref01_Add.f sc b = some (sc + b, true)) := Lib.hid (by rw [HF.out, hf]; rfl)
    have HFB := Lib.hid hf
    clear hf
    refine (mewsref01_Add.calls sc b (sc + b) true w1 HG.out).mono ?_
    rintro en w2 ⟨rfl, hd⟩
    have HS2 := Lib.hid (drawn_satZ HS1.out hd)
    clear hd HS1
    go_wp2_with fail
    refine (rPut24 HZ.out HB.out HS2.out).mono ?_
    rintro en w3 ⟨u, rfl, S3⟩
    have HS3 := Lib.hid S3
    clear S3 HS2
    go_wp2_with fail
    go_ret3
    refine ⟨u, by rw [HNN.out, HEE.out]; unfold addN addE; rw [← HSC.out, HFB.out]; rfl, ?_⟩
    have : addL l m b = putS l ⟨m, sc + b⟩ := by unfold addL; rw [← HSC.out, HFB.out]; rfl
    rw [this]
    exact HS3.out
set_option maxHeartbeats 8000000 in
/-- 'R.Drop'. -/
theorem rDrop24 {w0 w : World} {v : Value} {l : List Sc} {A : Option Addr} {c : Nat} {ms : List ByteArray} {R : HP} (hb : l.length ≤ 1000000) (hn : ms.length ≤ 1000000) (S : Sat w0 w (rS v l * (rT (.slice A ms.length c) ms * R))) :
    Calls Try.prog 29 #[v, .slice A ms.length c] w fun en w' => ∃ u, en = .returned (.tuple #[u, .int .i64 ((l.length : Int) - (outsS l ms).length)]) ∧ Sat w0 w' (rS u (outsS l ms) * (rT (.slice A ms.length c) ms * R)) := by
  have HS := Lib.hid S
  have HB := Lib.hid hb
  have hbi : (l.length : Int) ≤ 1000000 := by omega
  have hni : (ms.length : Int) ≤ 1000000 := by omega
  clear S hb hn
  go_enter Try.func29, Try.ntmps29
  go_wp2_with fail
  go_loopw [0, 6, 7] (fun v0 v6 v7 wr => ∃ (i : Nat) (cur : List Sc) (A2 : Option Addr) (c2 : Nat), v7 = .int .i64 i ∧ v6 = .int .i64 ((l.length : Int) - cur.length) ∧ v0 = .slice A2 cur.length c2 ∧ i ≤ ms.length ∧ Hid (cur = outsS l (ms.take i)) ∧ Hid (Sat w0 wr (rS (.slice A2 cur.length c2) cur * (rT (.slice A ms.length c) ms * R)))) (fun _ _ v7 _ => ms.length - (RowKit.intOf v7).toNat)
  case atStart =>
    obtain ⟨A2, c2, rfl, -, -⟩ := Sat.row_C flatS rfl HS.out
    exact ⟨0, l, A2, c2, rfl, by simp, rfl, by omega, Lib.hid rfl, HS⟩
  case round =>
    clear HS
    obtain ⟨i, cur, A2, c2, rfl, rfl, rfl, hi, HCU, HSi⟩ := hrel
    by_cases hlt : i < ms.length
    · have HCL : Hid (cur.length ≤ l.length) := Lib.hid (by rw [HCU.out]; exact outs_le _ _)
      have HNX : Hid (outsS l (ms.take (i + 1)) = outS cur ms[i]) := Lib.hid (by rw [HCU.out]; exact outs_take l ms hlt)
      obtain ⟨g, e1, x0⟩ := HSi.out.p2.rT_at hlt
      subst e1
      have hci : (cur.length : Int) ≤ 1000000 := by have := HCL.out; omega
      have hli : (i : Int) < (ms.length : Int) := by omega
      have hcl : (cur.length : Int) ≤ l.length := by have := HCL.out; omega
      go_wp2_with fail
      refine (rOut (m := ms[i]) (by have := HCL.out; have := HB.out; omega) HSi.out).mono ?_
      rintro en w2 ⟨u, rfl, S2⟩
      have hlo := outS_le cur ms[i]
      obtain ⟨nx, hnx⟩ : ∃ nx, nx = outS cur ms[i] := ⟨_, rfl⟩
      rw [← hnx] at S2 HNX hlo
      obtain ⟨A3, c3, rfl, -, -⟩ := Sat.row_C flatS rfl S2
      have HS2 : Hid (Sat w0 w2 (rS (.slice A3 nx.length c3) nx * (rT (.slice (some ⟨g, 0, none⟩) ms.length c) ms * R))) := Lib.hid (S2.p2.drop1)
      have hni2 : (nx.length : Int) ≤ cur.length := by omega
      clear S2 HSi x0 hnx hlo
      go_wp2_with fail
      go_roundw
      case rel => exact ⟨i + 1, nx, A3, c3, by simp, by congr 1; omega, rfl, by omega, Lib.hid HNX.out.symm, HS2⟩
      case measure => simp [RowKit.intOf]; omega
    · have hi2 : i = ms.length := by omega
      have HIE : Hid (cur = outsS l ms) := Lib.hid (by rw [HCU.out, hi2, List.take_of_length_le (Nat.le_refl _)])
      clear HCU
      go_wp2_with fail
      go_ret2
      exact ⟨.slice A2 cur.length c2, by rw [← HIE.out]; rfl, by rw [← HIE.out]; exact HSi.out⟩
/-! ### ranks, popped ones: in plain words -/
theorem rk_way {l : List Sc} (h : ZOk l) (back : Bool) {i : Nat} (hi : i < (wayS l back).length) : rkS l (wayS l back)[i].f0 back = i := by
  cases back with
  | false => exact (rk_at h hi).1
  | true =>
    have hl : i < l.length := by simpa [wayS] using hi
    have e : (wayS l true)[i] = l[l.length - 1 - i] := List.getElem_reverse (l := l) (by simpa using hl)
    rw [e, (rk_at h (i := l.length - 1 - i) (by omega)).2]
    omega
theorem rk_none {l : List Sc} {m : ByteArray} (back : Bool) (h : ∀ i (hi : i < (wayS l back).length), (wayS l back)[i].f0 ≠ m) : rkS l m back = -1 := by
  have hf : findS l m = none := by
    unfold findS
    rw [Option.map_eq_none_iff, List.find?_eq_none]
    intro x hx
    have hx' : x ∈ wayS l back := by cases back with
      | false => exact hx
      | true => exact List.mem_reverse.2 hx
    obtain ⟨i, hi, rfl⟩ := List.mem_iff_getElem.1 hx'
    simpa using h i hi
  unfold rkS
  rw [hf]
theorem way_out (l : List Sc) (m : ByteArray) (back : Bool) : wayS (outS l m) back = outS (wayS l back) m := by
  cases back with
  | false => rfl
  | true => show (l.filter _).reverse = (l.reverse).filter _; rw [List.filter_reverse]
theorem out_head {x : Sc} {xs : List Sc} (h : ((x :: xs).map (·.f0)).Nodup) : outS (x :: xs) x.f0 = xs := by
  rw [List.map_cons, List.nodup_cons] at h
  unfold outS
  rw [List.filter_cons_of_neg (by simp), List.filter_eq_self]
  intro y hy
  have : y.f0 ≠ x.f0 := fun e => h.1 (List.mem_map.2 ⟨y, hy, e⟩)
  simpa using this
theorem way_nodup {l : List Sc} (h : ZOk l) (back : Bool) : ((wayS l back).map (·.f0)).Nodup := by
  cases back with
  | false => exact h.ks
  | true => show (l.reverse.map _).Nodup; rw [List.map_reverse]; exact (List.reverse_perm _).nodup_iff.2 h.ks
/-- What is left behind k that went from an end. -/
def popK (l : List Sc) (back : Bool) (k : Nat) : List Sc := outsS l (((wayS l back).take k).map (·.f0))
theorem popK_next (l : List Sc) (back : Bool) {k : Nat} (h : k < (wayS l back).length) : popK l back (k + 1) = outS (popK l back k) (wayS l back)[k].f0 := by
  unfold popK outsS
  rw [List.take_add_one, List.getElem?_eq_getElem h, Option.toList_some, List.map_append, List.foldl_append]
  rfl
theorem popK_way {l : List Sc} (h : ZOk l) (back : Bool) : ∀ k, k ≤ (wayS l back).length → wayS (popK l back k) back = (wayS l back).drop k := by
  intro k
  induction k with
  | zero => intro _; rfl
  | succ k ih =>
    intro hk
    have hlt : k < (wayS l back).length := by omega
    have e : (wayS l back).drop k = (wayS l back)[k] :: (wayS l back).drop (k + 1) := List.drop_eq_getElem_cons hlt
    rw [popK_next l back hlt, way_out, ih (by omega), e]
    refine out_head ?_
    rw [← e]
    exact (way_nodup h back).sublist ((List.drop_sublist _ _).map _)
theorem popK_ok {l : List Sc} (h : ZOk l) (back : Bool) (k : Nat) : ZOk (popK l back k) := outs_ok h _
theorem popK_len {l : List Sc} (h : ZOk l) (back : Bool) {k : Nat} (hk : k ≤ l.length) : (popK l back k).length = l.length - k := by
  have := congrArg List.length (popK_way h back k (by rw [wayS_length]; exact hk))
  rw [wayS_length, List.length_drop, wayS_length] at this
  exact this
set_option maxHeartbeats 8000000 in
/-- 'R.Rank'. -/
theorem rRank24 {w0 w : World} {v : Value} {l : List Sc} {m : ByteArray} {back : Bool} {R : HP} (hz : ZOk l) (S : Sat w0 w (rS v l * R)) :
    Calls Try.prog 33 #[v, .string m, .bool back] w fun en w' => en = .returned (.int .i64 (rkS l m back)) ∧ Sat w0 w' (rS v l * R) := by
  obtain ⟨rr, hrr⟩ : ∃ rr, rr = rkS l m back := ⟨_, rfl⟩
  rw [← hrr]
  have HRR := Lib.hid hrr
  have HS := Lib.hid S
  have HZ := Lib.hid hz
  have hbi : (l.length : Int) ≤ 1000000 := by have := hz.big; omega
  clear S hz hrr
  go_enter Try.func33, Try.ntmps33
  go_wp2_with fail
  refine (rWay HZ.out.big HS.out).mono ?_
  rintro en w1 ⟨u, rfl, S1⟩
  obtain ⟨R', S1'⟩ := S1.two_way
  obtain ⟨A, c, rfl, hc, -⟩ := Sat.row_C flatS rfl S1'
  rw [wayS_length] at S1 hc ⊢
  have HS1 := Lib.hid S1
  clear S1 S1' HS hc
  go_wp2_with fail
  go_loopw [8] (fun v8 wr => ∃ i : Nat, v8 = .int .i64 i ∧ i ≤ l.length ∧ Hid (∀ j (hj : j < (wayS l back).length), j < i → (wayS l back)[j].f0 ≠ m) ∧ Hid (Sat w0 wr (twoS v (.slice A l.length c) l back * R))) (fun v8 _ => l.length - (RowKit.intOf v8).toNat)
  case atStart => exact ⟨0, rfl, by omega, Lib.hid (fun j _ h => absurd h (by omega)), HS1⟩
  case round =>
    clear HS1
    obtain ⟨i, rfl, hi, HN, HSi⟩ := hrel
    by_cases hlt : i < l.length
    · have hwl : i < (wayS l back).length := by rw [wayS_length]; exact hlt
      obtain ⟨g, e1, x0, x1⟩ := HSi.out.two_at hwl
      subst e1
      have hlti : (i : Int) < (l.length : Int) := by omega
      by_cases he : (wayS l back)[i].f0 = m
      · have HF : Hid (rr = (i : Int)) := Lib.hid (by rw [HRR.out, ← he]; exact rk_way HZ.out back hwl)
        rw [he] at x0
        clear he x1
        go_wp2_with fail
        go_ret
        exact ⟨by rw [HF.out]; rfl, HSi.out.two_row⟩
      · have hq : ((wayS l back)[i].f0.toList == m.toList) = false := beq_eq_false_iff_ne.2 (fun h => he (toList_injZ.1 h))
        have HN2 : Hid (∀ j (hj : j < (wayS l back).length), j < i + 1 → (wayS l back)[j].f0 ≠ m) := Lib.hid (fun j h hj => by
          by_cases e : j = i
          · subst e; exact he
          · exact HN.out j h (by omega))
        clear he x1
        go_wp2_with fail
        go_roundw
        case rel => exact ⟨i + 1, by simp, by omega, HN2, HSi⟩
        case measure => simp [RowKit.intOf]; omega
    · have HF : Hid (rr = -1) := Lib.hid (by
        rw [HRR.out]
        exact rk_none back (fun j hj => HN.out j hj (by rw [wayS_length] at hj; omega)))
      go_wp2_with fail
      go_ret
      exact ⟨by rw [HF.out]; rfl, HSi.out.two_row⟩
set_option maxHeartbeats 8000000 in
/-- 'R.Pop'. -/
theorem rPop24 {w0 w : World} {v : Value} {l : List Sc} {back : Bool} {count : Int} {R : HP} (hz : ZOk l) (S : Sat w0 w (rS v l * R)) :
    Calls Try.prog 31 #[v, .bool back, .int .i64 count] w fun en w' => ∃ u u2, en = .returned (.tuple #[u, u2]) ∧ Sat w0 w' (rS u (popL l back count) * (rS u2 (popT l back count) * R)) := by
  have HS := Lib.hid S
  have HZ := Lib.hid hz
  have hbi : (l.length : Int) ≤ 1000000 := by have := hz.big; omega
  obtain ⟨A0, c0, rfl, -, -⟩ := Sat.row_C flatS rfl S
  clear S hz
  go_enter Try.func31, Try.ntmps31
  have HS1 : Hid (Sat w0 w (rS (.slice none 0 0) ((wayS l back).take 0) * (rS (.slice A0 l.length c0) (popK l back 0) * R))) := Lib.hid (HS.out.row_nil _ _)
  clear HS
  go_wp2_with fail
  go_loopw [0, 8] (fun v0 v8 wr => ∃ (k : Nat) (A1 A2 : Option Addr) (c1 c2 : Nat), v0 = .slice A1 (l.length - k) c1 ∧ v8 = .slice A2 k c2 ∧ k ≤ l.length ∧ Hid ((k : Int) ≤ max count 0) ∧ Hid (Sat w0 wr (rS (.slice A2 k c2) ((wayS l back).take k) * (rS (.slice A1 (l.length - k) c1) (popK l back k) * R)))) (fun _ v8 _ => l.length - (match v8 with | .slice _ n _ => n | _ => 0))
  case atStart => exact ⟨0, A0, none, c0, 0, rfl, rfl, by omega, Lib.hid (by omega), HS1⟩
  case round =>
    clear HS1
    obtain ⟨k, A1, A2, c1, c2, rfl, rfl, hk, HKC, HSi⟩ := hrel
    by_cases hc : (k : Int) < count
    · have hcd : decide ((k : Int) < count) = true := by simpa using hc
      by_cases hlt : k < l.length
      · have hpos : decide ((0 : Int) < ((l.length - k : Nat) : Int)) = true := by simp; omega
        have hpos2 : (0 : Int) < ((l.length - k : Nat) : Int) := by omega
        have hwl : k < (wayS l back).length := by rw [wayS_length]; exact hlt
        obtain ⟨cur, hcur⟩ : ∃ cur, cur = popK l back k := ⟨_, rfl⟩
        obtain ⟨n, hn⟩ : ∃ n, n = l.length - k := ⟨_, rfl⟩
        have hcl : cur.length = n := by rw [hcur, hn]; exact popK_len HZ.out back hk
        have HCZ : Hid (ZOk cur) := Lib.hid (by rw [hcur]; exact popK_ok HZ.out back k)
        have HWY : Hid (wayS cur back = (wayS l back).drop k) := Lib.hid (by rw [hcur]; exact popK_way HZ.out back k (by omega))
        have HNX : Hid (popK l back (k + 1) = outS cur (wayS l back)[k].f0) := Lib.hid (by rw [hcur]; exact popK_next l back hwl)
        have HTK : Hid ((wayS l back).take (k + 1) = (wayS l back).take k ++ [(wayS l back)[k]]) := Lib.hid (by rw [List.take_add_one, List.getElem?_eq_getElem hwl]; rfl)
        rw [← hcur, ← hn] at HSi
        rw [← hn] at hpos hpos2 ⊢
        have hwc : 0 < (wayS cur back).length := by rw [wayS_length]; omega
        obtain ⟨x, hx⟩ : ∃ x, x = (wayS l back)[k] := ⟨_, rfl⟩
        have hx0 : (wayS cur back)[0] = x := by
          rw [hx]
          have h1 : (wayS cur back)[0]? = ((wayS l back).drop k)[0]? := by rw [HWY.out]
          rw [List.getElem?_drop, List.getElem?_eq_getElem hwc, List.getElem?_eq_getElem (by omega)] at h1
          simpa using h1
        rw [← hx] at HNX HTK
        have HX0 := Lib.hid hx0
        have HCL := Lib.hid hcl
        have HN := Lib.hid hn
        clear hcur hcl hn hx hx0
        go_wp2_with fail
        refine (rWay (back := back) HCZ.out.big HSi.out.p2).mono ?_
        rintro en w2 ⟨u, rfl, S2⟩
        obtain ⟨R', S2'⟩ := S2.two_way
        obtain ⟨Au, cu, rfl, -, -⟩ := Sat.row_C flatS rfl S2'
        rw [wayS_length, HCL.out] at S2 ⊢
        obtain ⟨g, e1, x0, x1⟩ := S2.two_at hwc
        subst e1
        rw [HX0.out] at x0 x1
        have HS2 : Hid (Sat w0 w2 (rS (.slice A1 n c1) cur * (rS (.slice A2 k c2) ((wayS l back).take k) * R))) := Lib.hid S2.two_row
        clear S2 S2' HSi
        obtain ⟨xb, hxb⟩ : ∃ xb, xb = w2.heap.size := ⟨_, rfl⟩
        have SA := HS2.out.alloc (.cells #[.string x.f0, .int .i64 x.f1] 30)
        rw [← hxb] at SA
        have HSA := Lib.hid SA
        have HXB := Lib.hid hxb
        clear SA hxb HS2
        go_upto_region 4 with (fail)
        rw [← HXB.out]
        clear x0 x1
        refine gen_w HSA.out ?_
        clear HSA HXB
        intro wq SB
        obtain ⟨b0, b1, -⟩ := blk2 SB.blk
        have S3 := (SB.p3).alloc (.cells #[.string x.f0, .int .i64 x.f1] 30)
        obtain ⟨q0, q1, -⟩ := blk2 S3.blk
        obtain ⟨v', w', hr, S4⟩ := Sat.rS_append (x := x) (by rw [List.length_take]; omega) S3.p2 wq.heap.size 1 q0 q1
        rw [← HTK.out] at S4
        have hv' : ∃ A3 c3, v' = .slice A3 (k + 1) c3 := by
          obtain ⟨A3, c3, e, -, -⟩ := Sat.row_C flatS rfl S4
          exact ⟨A3, c3, by rw [e, List.length_take, Nat.min_eq_left (by omega)]⟩
        obtain ⟨A3, c3, rfl⟩ := hv'
        obtain ⟨b0', b1', -⟩ := blk2 S4.p3.blk
        have HS4 : Hid (Sat w0 w' (rS (.slice A1 n c1) cur * (rS (.slice A3 (k + 1) c3) ((wayS l back).take (k + 1)) * (pts xb (.cells #[.string x.f0, .int .i64 x.f1] 30 (0, 0)) * R)))) := Lib.hid (by
          have := S4.p2.drop1
          exact this.cong (by ac_rfl))
        clear S3 S4 SB q0 q1
        go_upto_region 5 with (at_builtin; refine wpList_append_eq rfl _ _ _ _ rfl rfl rfl hr ?_)
        clear hr b0 b1
        obtain ⟨b0, b1, -⟩ := blk2 HS4.out.p3.blk
        clear b0' b1'
        go_wp2_with fail
        refine (rOut (m := x.f0) HCZ.out.big HS4.out).mono ?_
        rintro en w4 ⟨u4, rfl, S5⟩
        rw [← HNX.out] at S5
        have hv4 : ∃ A4 c4, u4 = .slice A4 (l.length - (k + 1)) c4 := by
          obtain ⟨A4, c4, e, -, -⟩ := Sat.row_C flatS rfl S5
          exact ⟨A4, c4, by rw [e, popK_len HZ.out back (by omega)]⟩
        obtain ⟨A4, c4, rfl⟩ := hv4
        have HS5 : Hid (Sat w0 w4 (rS (.slice A3 (k + 1) c3) ((wayS l back).take (k + 1)) * (rS (.slice A4 (l.length - (k + 1)) c4) (popK l back (k + 1)) * R))) := Lib.hid (by
          have := (S5.p4.drop1).p3
          exact (this.cong (B := rS (.slice A1 n c1) cur * (rS (.slice A3 (k + 1) c3) ((wayS l back).take (k + 1)) * (rS (.slice A4 (l.length - (k + 1)) c4) (popK l back (k + 1)) * R))) (by ac_rfl)).drop1)
        clear S5 HS4 b0 b1
        go_wp2_with fail
        go_roundw
        case rel => exact ⟨k + 1, A4, A3, c4, c3, rfl, rfl, by omega, Lib.hid (by omega), HS5⟩
        case measure => simp; omega
      · have hk0 : l.length - k = 0 := by omega
        have hpos : decide ((0 : Int) < ((l.length - k : Nat) : Int)) = false := by simp; omega
        have HT : Hid ((wayS l back).take k = popT l back count ∧ popK l back k = popL l back count) := Lib.hid (by
          have e1 : (wayS l back).take k = popT l back count := by
            unfold popT
            rw [List.take_of_length_le (by rw [wayS_length]; omega), List.take_of_length_le (by rw [wayS_length]; omega)]
          exact ⟨e1, by unfold popK popL; rw [e1]⟩)
        go_wp2_with fail
        go_ret2
        exact ⟨_, _, rfl, by rw [← HT.out.1, ← HT.out.2]; exact HSi.out.p2⟩
    · have hcd : decide ((k : Int) < count) = false := by simpa using hc
      have HT : Hid ((wayS l back).take k = popT l back count ∧ popK l back k = popL l back count) := Lib.hid (by
        have e0 : count.toNat = k := by have := HKC.out; omega
        have e1 : (wayS l back).take k = popT l back count := by unfold popT; rw [e0]
        exact ⟨e1, by unfold popK popL; rw [e1]⟩)
      go_wp2_with fail
      go_ret2
      exact ⟨_, _, rfl, by rw [← HT.out.1, ← HT.out.2]; exact HSi.out.p2⟩
end Go.Sl
/-! ### LawZsP -/
namespace Go.Sl
open Go.RowKit Go.Proofs Go.Proofs.YteakblblpiihpaaW.PrintWords Go.Proofs.Yteakblblpiihpaa.PZs Go.Sl.DI64
set_option linter.unusedVariables false
set_option linter.unusedSimpArgs false
set_option maxRecDepth 100000

abbrev OpZ := S62
instance : Inhabited OpZ := ⟨z62⟩
theorem opensOpZ : Opens Try.prog 62 k62 (fun x => (Lit.int .i64 x.f2).wf = true) := by
  have h := opens_struct (P := Try.prog) (t := 62) Try.underlying62 (by kernel_rfl) (opensFs_cons (opens_int Try.underlying3) rfl (by kernel_rfl) (opensFs_cons (off := 1) (opens_string Try.underlying9) rfl (by kernel_rfl) (opensFs_cons (off := 2) (opens_int Try.underlying2) rfl (by kernel_rfl) (opensFs_one (off := 3) (opens_bool Try.underlying4) rfl (by kernel_rfl)) rfl rfl) rfl rfl) rfl rfl)
  exact (h.iso (fun x : OpZ => (x.f0, x.f1, x.f2, x.f3)) (fun p => ⟨p.1, p.2.1, p.2.2.1, p.2.2.2⟩) (fun _ => rfl)).weaken (fun a h => h.2.2.1)
theorem opensOpsZ : Opens Try.prog 59 (Kd.slice 62 k62) (fun xs => ∀ x ∈ xs, (Lit.int .i64 x.f2).wf = true) := opens_slice Try.underlying59 (by kernel_rfl) opensOpZ
theorem rdO_at (xs : List OpZ) (i : Nat) (h : i < xs.length) : rd_T62 xs (i : Int) = xs[i] := by
  unfold rd_T62
  simp [List.getD_eq_getElem?_getD, h]
/-- 'far': too many, or one too long. -/
def farZ (l : List OpZ) : Bool := l.any (fun o => decide (200 < o.f1.size)) || decide (200 < l.length)
theorem farZ_l0 {l : List OpZ} (hs : l.length ≤ 9223372036854775807) : ∀ (d k : Nat) (i : Nat), l.length - i = d → d < k → i ≤ l.length →
    mewslaw24_far.l0 k l l (l.length : Int) i = some ((l.drop i).any (fun o => decide (200 < o.f1.size)) || decide (200 < l.length)) := by
  intro d
  induction d with
  | zero =>
    intro k i hd hk hi
    obtain ⟨k, rfl⟩ : ∃ m, k = m + 1 := ⟨k - 1, by omega⟩
    simp only [mewslaw24_far.l0]
    rw [if_neg (by omega), List.drop_of_length_le (by omega)]
    have : decide ((l.length : Int) > 200) = decide (200 < l.length) := by apply decide_eq_decide.2; omega
    simp [this]
  | succ d ih =>
    intro k i hd hk hi
    obtain ⟨k, rfl⟩ : ∃ m, k = m + 1 := ⟨k - 1, by omega⟩
    have h1 : i < l.length := by omega
    simp only [mewslaw24_far.l0]
    rw [if_pos (by omega), if_pos (by omega), if_pos (by omega), rdO_at l i h1, wrap_upZ h1 hs, List.drop_eq_getElem_cons h1, ih k (i + 1) (by omega) (by omega) (by omega)]
    by_cases e : 200 < l[i].f1.size
    · rw [if_pos (by omega)]; simp only [List.any_cons, e, decide_true, Bool.true_or]
    · rw [if_neg (by omega)]; simp only [List.any_cons, e, decide_false, Bool.false_or]
theorem farZ_f {l : List OpZ} (hs : l.length ≤ 9223372036854775807) : mewslaw24_far.f (l.length + 1) l = some (farZ l) := by
  unfold mewslaw24_far.f farZ
  have := farZ_l0 hs l.length (l.length + 1) 0 (by omega) (by omega) (by omega)
  simpa using this
/-- What a call leaves. -/
def nxtZ (o : OpZ) (r : List Sc) : List Sc := if o.f0 = 0 then putS r ⟨o.f1, o.f2⟩ else if o.f0 = 1 then addL r o.f1 o.f2 else if o.f0 = 2 then outsS r [o.f1, kB, o.f1] else popL r o.f3 o.f2
structure StZ (r : List Sc) (i : Nat) : Prop where
  ok : ZOk r
  sc : okS r
  len : r.length ≤ i
theorem okS_outs {l : List Sc} (h : okS l) : ∀ ms, okS (outsS l ms) := by
  intro ms
  induction ms generalizing l with
  | nil => exact h
  | cons m ms ih => exact ih (fun x hx => h x (List.mem_filter.1 hx).1)
theorem add_okZ {l : List Sc} (h : ZOk l) {m : ByteArray} {b : Int} (hs : m.size ≤ maxLen) (hb : l.length < 1000000) : ZOk (addL l m b) ∧ (addL l m b).length ≤ l.length + 1 := by
  unfold addL
  split
  · exact ⟨put_ok h hs hb, put_length _ _⟩
  · exact ⟨h, by omega⟩
theorem stZ_next {r : List Sc} {i : Nat} {o : OpZ} (h : StZ r i) (hs : o.f1.size ≤ maxLen) (hi : i < 1000) (h64 : -9223372036854775808 ≤ o.f2 ∧ o.f2 ≤ 9223372036854775807) : StZ (nxtZ o r) (i + 1) := by
  have hl := h.len
  unfold nxtZ
  split
  · exact ⟨put_ok h.ok hs (by omega), okS_put h.sc h64, Nat.le_trans (put_length _ _) (by omega)⟩
  · split
    · obtain ⟨h1, h2⟩ := add_okZ (m := o.f1) (b := o.f2) h.ok hs (by omega)
      exact ⟨h1, okS_add h.sc _ _, by omega⟩
    · split
      · exact ⟨outs_ok h.ok _, okS_outs h.sc _, Nat.le_trans (outs_le _ _) (by omega)⟩
      · exact ⟨outs_ok h.ok _, okS_outs h.sc _, Nat.le_trans (outs_le _ _) (by omega)⟩
abbrev opO (o : OpZ) : Obj := .cells #[.int .i64 o.f0, .string o.f1, .int .i64 o.f2, .bool o.f3] 62 (0, 0)
/-- An argument's element. -/
theorem argO {w wr : World} {A : Option Addr} {l : List OpZ} (hr : Kd.C k62 w A l.length l) (hb : Below w.heap.size w wr) {i : Nat} (h : i < l.length) :
    ∃ ad : Addr, A = some ad ∧ wr.cell? (ad.add (i * 4)) = some (.int .i64 l[i].f0) ∧ wr.cell? ⟨(ad.add (i * 4)).block, (ad.add (i * 4)).off + 1, none⟩ = some (.string l[i].f1) ∧ wr.cell? ⟨(ad.add (i * 4)).block, (ad.add (i * 4)).off + 2, none⟩ = some (.int .i64 l[i].f2) ∧ wr.cell? ⟨(ad.add (i * 4)).block, (ad.add (i * 4)).off + 3, none⟩ = some (.bool l[i].f3) := by
  obtain ⟨ad, e1, hx0, hx1, hx2, hx3⟩ := at_T62 hr (i : Int) (by omega) (by omega)
  have erd : rd_T62 l (i : Int) = l[i] := rdO_at l i h
  rw [Int.toNat_natCast, erd] at hx0 hx1 hx2 hx3
  exact ⟨ad, e1, (hb.cell (World.block_lt_of_cell? w _ hx0)).trans hx0, (hb.cell (World.block_lt_of_cell? w _ hx1)).trans hx1, (hb.cell (World.block_lt_of_cell? w _ hx2)).trans hx2, (hb.cell (World.block_lt_of_cell? w _ hx3)).trans hx3⟩
theorem cellsO {w0 w : World} {ob : Nat} {o : OpZ} {R : HP} (S : Sat w0 w (pts ob (opO o) * R)) :
    w.cell? ⟨ob, 0, none⟩ = some (.int .i64 o.f0) ∧ w.cell? ⟨ob, 1, none⟩ = some (.string o.f1) ∧ w.cell? ⟨ob, 2, none⟩ = some (.int .i64 o.f2) ∧ w.cell? ⟨ob, 3, none⟩ = some (.bool o.f3) := by
  obtain ⟨a, b, c, d, _⟩ := blk4 S.blk
  exact ⟨a, b, c, d⟩
theorem bneBZ (x : Bool) : (x != x) = false := by cases x <;> rfl
theorem bneIZ (x : Int) : (x != x) = false := by simp
attribute [local go_sem] bneBZ bneIZ
set_option maxHeartbeats 32000000 in
theorem playsZs {w : World} {seed : Int} {A0 : Option Addr} {c0 : Nat} {l : List OpZ} (hr0 : Kd.C k62 w A0 l.length l) (hc0 : l.length ≤ c0) (hok : ∀ x ∈ l, (Lit.int .i64 x.f2).wf = true) :
    Calls Try.prog 5 #[.int .u64 seed, .slice A0 l.length c0] w fun en w' => en = .returned (.bool true) ∧ Below w.heap.size w w' := by
  have hmax : l.length ≤ 9223372036854775807 := hr0.2.1
  have HR := Lib.hid hr0
  have HC := Lib.hid hc0
  have HOK := Lib.hid hok
  clear hok
  cases hf1 : farZ l with
  | true =>
    have HF := Lib.hid ((farZ_f hmax).trans (by rw [hf1]))
    clear hf1 hr0 hc0
    go_enter Try.func5, Try.ntmps5
    go_wp2_with fail
    refine (mewslaw24_far.calls (l.length + 1) A0 c0 l true w HR.out HC.out HF.out).mono ?_
    rintro en w1 ⟨rfl, hb⟩
    have HS1 := Lib.hid ((Sat.start w).below (by first | exact hb | exact hb.below))
    clear hb
    go_wp2_with fail
    refine (aliveZs HS1.out).mono ?_
    rintro en w5 ⟨rfl, S5⟩
    have HS5 := Lib.hid S5.old1
    clear S5
    go_wp2_with fail
    go_ret
    exact ⟨rfl, HS5.out⟩
  | false =>
    have hlen : l.length ≤ 200 := by
      unfold farZ at hf1
      have := (Bool.or_eq_false_iff.1 hf1).2
      simpa using this
    have HSM : Hid (∀ o ∈ l, o.f1.size ≤ 200) := Lib.hid (fun o ho => by
      unfold farZ at hf1
      have := List.any_eq_false.1 (Bool.or_eq_false_iff.1 hf1).1 o ho
      simpa using this)
    have HF := Lib.hid ((farZ_f hmax).trans (by rw [hf1]))
    have hli : (l.length : Int) ≤ 200 := by omega
    clear hr0 hc0 hf1 hmax
    go_enter Try.func5, Try.ntmps5
    go_wp2_with fail
    refine (mewslaw24_far.calls (l.length + 1) A0 c0 l false w HR.out HC.out HF.out).mono ?_
    rintro en w1 ⟨rfl, hb⟩
    have HS1 := Lib.hid ((Sat.start w).below (by first | exact hb | exact hb.below))
    clear hb
    go_wp2_with fail
    refine (zsNew (seed := seed) HS1.out).mono ?_
    rintro en w2 ⟨b, rfl, S2⟩
    have HS2 : Hid (Sat w w2 (zs b [] * (rS (.slice none 0 0) [] * old w))) := Lib.hid (Sat.p2 (S2.row_nil _ _))
    clear S2 HS1
    go_wp2_with fail
    go_loopw [6, 34] (fun v6 v34 wr => ∃ (i : Nat) (r : List Sc) (A6 : Option Addr) (c6 : Nat), v34 = .int .i64 i ∧ v6 = .slice A6 r.length c6 ∧ i ≤ l.length ∧ Hid (StZ r i) ∧ Hid (Sat w wr (zs b r * (rS (.slice A6 r.length c6) r * old w)))) (fun _ v34 _ => l.length - (RowKit.intOf v34).toNat)
    case atStart => exact ⟨0, [], none, 0, rfl, rfl, by omega, Lib.hid ⟨zok_nil, fun x hx => by simp at hx, by simp⟩, HS2⟩
    case round =>
      clear HS2
      obtain ⟨i, r, A6, c6, rfl, rfl, hi, HST, HSi⟩ := hrel
      by_cases hlt : i < l.length
      · obtain ⟨ad, e1, hx0, hx1, hx2, hx3⟩ := argO HR.out HSi.out.drop1.drop1.old1 hlt
        subst e1
        obtain ⟨o, ho⟩ : ∃ o, o = l[i] := ⟨_, rfl⟩
        rw [← ho] at hx0 hx1 hx2 hx3
        have HSO : Hid (o.f1.size ≤ maxLen) := Lib.hid (by rw [ho]; exact Nat.le_trans (HSM.out _ (List.getElem_mem hlt)) (by decide))
        have H64 : Hid (-9223372036854775808 ≤ o.f2 ∧ o.f2 ≤ 9223372036854775807) := Lib.hid (by
          have := HOK.out o (by rw [ho]; exact List.getElem_mem hlt)
          simp [Lit.wf, IntKind.min, IntKind.max, IntKind.signed, IntKind.bits] at this
          omega)
        have HRL : Hid (r.length < 1000000) := Lib.hid (by have := HST.out.len; omega)
        have HNX := Lib.hid (stZ_next (o := o) HST.out HSO.out (by omega) H64.out)
        obtain ⟨ob, hob⟩ : ∃ ob, ob = wr.heap.size := ⟨_, rfl⟩
        have SA := HSi.out.alloc (opO o)
        rw [← hob] at SA
        have HSA := Lib.hid SA
        have HOB := Lib.hid hob
        clear SA hob HSi ho
        go_upto_region 8 with (fail)
        rw [← HOB.out]
        clear hx0 hx1 hx2 hx3
        refine gen_w HSA.out ?_
        clear HSA HOB
        intro wq SB
        obtain ⟨b0, b1, b2, b3, -⟩ := blk4 SB.blk
        have HSB := Lib.hid SB
        clear SB
        go_upto_block 2 with (fail)
        go_cut [6] (fun s6 wx => ∃ A c, s6 = .slice A (nxtZ o r).length c ∧ Hid (Sat w wx (pts ob (opO o) * (zs b (nxtZ o r) * (rS (.slice A (nxtZ o r).length c) (nxtZ o r) * old w)))))
        case first =>
          by_cases k0 : o.f0 = 0
          · have HE : Hid (nxtZ o r = putS r ⟨o.f1, o.f2⟩) := Lib.hid (by unfold nxtZ; rw [if_pos k0])
            have k0d : (o.f0 == 0) = true := by simpa using k0
            clear k0
            go_wp2_with fail
            refine (zsPut HSO.out HRL.out HSB.out.p2).mono ?_
            rintro en w2 ⟨rfl, S2⟩
            clear b0 b1 b2 b3
            obtain ⟨b0, b1, b2, b3, -⟩ := blk4 S2.p2.blk
            have HS2 := Lib.hid S2.p3
            clear S2 HSB
            go_wp2_with fail
            refine (rPut24 HST.out.ok HRL.out HS2.out).mono ?_
            rintro en w3 ⟨u, rfl, S3⟩
            rw [← HE.out] at S3
            obtain ⟨A3, c3, rfl, -, -⟩ := Sat.row_C flatS rfl S3
            have HS3 : Hid (Sat w w3 (pts ob (opO o) * (zs b (nxtZ o r) * (rS (.slice A3 (nxtZ o r).length c3) (nxtZ o r) * old w)))) := Lib.hid (S3.cong (by ac_rfl))
            clear S3 HS2
            go_wp2_with fail
            go_meet
            exact ⟨_, _, rfl, HS3⟩
          have k0d : (o.f0 == 0) = false := by simpa using k0
          by_cases k1 : o.f0 = 1
          · have HE : Hid (nxtZ o r = addL r o.f1 o.f2) := Lib.hid (by unfold nxtZ; rw [if_neg k0, if_pos k1])
            have k1d : (o.f0 == 1) = true := by simpa using k1
            clear k0 k1
            go_wp2_with fail
            refine (zsAdd HSO.out HRL.out HST.out.sc H64.out HSB.out.p2).mono ?_
            rintro en w2 ⟨rfl, S2⟩
            clear b0 b1 b2 b3
            obtain ⟨b0, b1, b2, b3, -⟩ := blk4 S2.p2.blk
            have HS2 := Lib.hid S2.p3
            clear S2 HSB
            go_wp2_with fail
            refine (rAdd24 HST.out.ok HRL.out HST.out.sc H64.out HS2.out).mono ?_
            rintro en w3 ⟨u, rfl, S3⟩
            rw [← HE.out] at S3
            obtain ⟨A3, c3, rfl, -, -⟩ := Sat.row_C flatS rfl S3
            have HS3 : Hid (Sat w w3 (pts ob (opO o) * (zs b (nxtZ o r) * (rS (.slice A3 (nxtZ o r).length c3) (nxtZ o r) * old w)))) := Lib.hid (S3.cong (by ac_rfl))
            clear S3 HS2
            go_wp2_with fail
            go_meet
            exact ⟨_, _, rfl, HS3⟩
          have k1d : (o.f0 == 1) = false := by simpa using k1
          by_cases k2 : o.f0 = 2
          · have HE : Hid (nxtZ o r = outsS r [o.f1, kB, o.f1]) := Lib.hid (by unfold nxtZ; rw [if_neg k0, if_neg k1, if_pos k2])
            have k2d : (o.f0 == 2) = true := by simpa using k2
            have HMS : Hid (∀ m ∈ [o.f1, kB, o.f1], m.size ≤ maxLen) := Lib.hid (fun m hm => by
              simp only [List.mem_cons, List.not_mem_nil, or_false] at hm
              rcases hm with rfl | rfl | rfl
              · exact HSO.out
              · decide
              · exact HSO.out)
            clear k0 k1 k2
            have T1 : Sat w (wq.alloc (.cells #[.string o.f1, .string kB, .string o.f1] 9)) (rT (.slice (some ⟨wq.heap.size, 0, none⟩) [o.f1, kB, o.f1].length 3) [o.f1, kB, o.f1] * _) := Sat.row_new (e := 9) (sz := 1) (n := 3) HSB.out.p2 rfl (by decide)
            have HT1 := Lib.hid T1.p2
            clear T1
            go_wp2_with fail
            refine (zsDrop HMS.out (by simp) HT1.out).mono ?_
            rintro en w2 ⟨rfl, S2⟩
            clear b0 b1 b2 b3
            obtain ⟨b0, b1, b2, b3, -⟩ := blk4 S2.p3.blk
            have T2 : Sat w (w2.alloc (.cells #[.string o.f1, .string kB, .string o.f1] 9)) (rT (.slice (some ⟨w2.heap.size, 0, none⟩) [o.f1, kB, o.f1].length 3) [o.f1, kB, o.f1] * _) := Sat.row_new (e := 9) (sz := 1) (n := 3) (S2.p2.drop1) rfl (by decide)
            have HT2 : Hid (Sat w (w2.alloc (.cells #[.string o.f1, .string kB, .string o.f1] 9)) (rS (.slice A6 r.length c6) r * (rT (.slice (some ⟨w2.heap.size, 0, none⟩) [o.f1, kB, o.f1].length 3) [o.f1, kB, o.f1] * (zs b (outsS r [o.f1, kB, o.f1]) * (pts ob (opO o) * old w))))) := Lib.hid (T2.cong (by ac_rfl))
            clear S2 T2 HSB HT1
            go_wp2_with fail
            refine (rDrop24 (Nat.le_of_lt HRL.out) (by simp) HT2.out).mono ?_
            rintro en w3 ⟨u, rfl, S3⟩
            rw [← HE.out] at S3 ⊢
            obtain ⟨A3, c3, rfl, -, -⟩ := Sat.row_C flatS rfl S3
            have HS3 : Hid (Sat w w3 (pts ob (opO o) * (zs b (nxtZ o r) * (rS (.slice A3 (nxtZ o r).length c3) (nxtZ o r) * old w)))) := Lib.hid ((S3.p2.drop1).cong (by ac_rfl))
            clear S3 HT2
            go_wp2_with fail
            go_meet
            exact ⟨_, _, rfl, HS3⟩
          · have HE : Hid (nxtZ o r = popL r o.f3 o.f2) := Lib.hid (by unfold nxtZ; rw [if_neg k0, if_neg k1, if_neg k2])
            have k2d : (o.f0 == 2) = false := by simpa using k2
            clear k0 k1 k2
            go_wp2_with fail
            refine (zsPop H64.out HSB.out.p2).mono ?_
            rintro en w2 ⟨v20, rfl, S2⟩
            clear b0 b1 b2 b3
            obtain ⟨b0, b1, b2, b3, -⟩ := blk4 S2.p3.blk
            have HS2 := Lib.hid S2.p4
            clear S2 HSB
            go_wp2_with fail
            refine (rPop24 (back := o.f3) (count := o.f2) HST.out.ok HS2.out).mono ?_
            rintro en w3 ⟨u, u2, rfl, S3⟩
            rw [← HE.out] at S3
            have HTL : Hid ((popT r o.f3 o.f2).length ≤ 1000000) := Lib.hid (by unfold popT; rw [List.length_take, wayS_length]; have := HRL.out; omega)
            obtain ⟨A3, c3, rfl, -, -⟩ := Sat.row_C flatS rfl S3
            have HS3 : Hid (Sat w w3 (rS v20 (popT r o.f3 o.f2) * (rS u2 (popT r o.f3 o.f2) * (pts ob (opO o) * (zs b (nxtZ o r) * (rS (.slice A3 (nxtZ o r).length c3) (nxtZ o r) * old w)))))) := Lib.hid (S3.cong (by rw [HE.out]; ac_rfl))
            clear S3 HS2
            go_wp2_with fail
            refine (zSame HTL.out HS3.out).mono ?_
            rintro en w4 ⟨rfl, S4⟩
            have HS4 := Lib.hid (S4.drop1.drop1)
            clear S4 HS3
            go_wp2_with fail
            go_meet
            exact ⟨_, _, rfl, HS4⟩
        case rest =>
          obtain ⟨A7, c7, rfl, HS7⟩ := hcut
          clear HSB b0 b1 b2 b3
          obtain ⟨r2, hr2⟩ : ∃ r2, r2 = nxtZ o r := ⟨_, rfl⟩
          rw [← hr2] at HS7 HNX ⊢
          have HRB : Hid (r2.length < 1000000) := Lib.hid (by have := HNX.out.len; omega)
          have HSV : Hid (∃ (x : Int) (y : Bool), scoreV r2 o.f1 = .tuple #[.int .i64 x, .bool y]) := Lib.hid ⟨_, _, rfl⟩
          obtain ⟨x, y, hsv⟩ := HSV.out
          have HSVX := Lib.hid hsv
          clear hr2 HST HRL HSV hsv
          obtain ⟨b0, b1, b2, b3, -⟩ := blk4 HS7.out.blk
          go_wp2_with fail
          refine (zsScore HSO.out HS7.out.p2).mono ?_
          rintro en w2 ⟨rfl, S2⟩
          rw [HSVX.out]
          clear b0 b1 b2 b3
          obtain ⟨b0, b1, b2, b3, -⟩ := blk4 S2.p2.blk
          have HS2 := Lib.hid S2.p3
          clear S2 HS7
          go_wp2_with fail
          refine (rScore24 (Nat.le_of_lt HRB.out) HS2.out).mono ?_
          rintro en w3 ⟨rfl, S3⟩
          rw [HSVX.out]
          have HP : Hid (Sat w w3 (pts ob (opO o) * (zs b r2 * (rS (.slice A7 r2.length c7) r2 * old w)))) := Lib.hid (S3.cong (by ac_rfl))
          clear S3 HS2 b0 b1 b2 b3 HSVX
          go_upto_region 34 with (fail)
          -- BEGIN A
          refine wp_region_noPanic ?_
          refine wp_region_held_drew (S := (fun w' => w'.cell? ⟨ob, 0, none⟩ = some (.int .i64 o.f0) ∧ w'.cell? ⟨ob, 1, none⟩ = some (.string o.f1) ∧ w'.cell? ⟨ob, 2, none⟩ = some (.int .i64 o.f2) ∧ w'.cell? ⟨ob, 3, none⟩ = some (.bool o.f3))) (by kernel_rfl) ?_ (fun hHeld => ?_)
          · exact cellsO HP.out.drew
          refine wpAnyH_take (i := 0) (v := ?_) (by simp only [List.getElem?_toArray, List.getElem?_cons_succ, List.getElem?_cons_zero]; rfl) (by kernel_rfl) (by kernel_rfl) (by kernel_rfl) (fun _ _ _ h => h) (Or.inl ⟨by rfl, ?_⟩) hHeld ?_
          rotate_left
          · (intro w hSw; (try dsimp only at hSw); go_simp; try with_reducible rfl)
          try simp only [Act.put, List.setIfInBounds_toArray, List.set_cons_zero, List.set_cons_succ]
          refine wpAnyH_take (i := 1) (v := ?_) (by simp only [List.getElem?_toArray, List.getElem?_cons_succ, List.getElem?_cons_zero]; rfl) (by kernel_rfl) (by kernel_rfl) (by kernel_rfl) (fun _ _ _ h => h) (Or.inl ⟨by rfl, ?_⟩) hHeld ?_
          rotate_left
          · (intro w hSw; (try dsimp only at hSw); go_simp; try with_reducible rfl)
          try simp only [Act.put, List.setIfInBounds_toArray, List.set_cons_zero, List.set_cons_succ]
          refine wpAnyH_take (i := 2) (v := (.bool false)) (by simp only [List.getElem?_toArray, List.getElem?_cons_succ, List.getElem?_cons_zero]; rfl) (by kernel_rfl) (by kernel_rfl) (by kernel_rfl) (fun _ _ _ h => h) (Or.inl ⟨by rfl, ?_⟩) hHeld ?_
          · (intro w hSw; (try dsimp only at hSw); go_simp; try with_reducible rfl)
          try simp only [Act.put, List.setIfInBounds_toArray, List.set_cons_zero, List.set_cons_succ]
          refine wpAnyH_take (i := 3) (v := ?_) (by simp only [List.getElem?_toArray, List.getElem?_cons_succ, List.getElem?_cons_zero]; rfl) (by kernel_rfl) (by kernel_rfl) (by kernel_rfl) (fun _ _ _ h => h) (Or.inl ⟨by rfl, ?_⟩) hHeld ?_
          rotate_left
          · (intro w hSw; (try dsimp only at hSw); go_simp; try with_reducible rfl)
          try simp only [Act.put, List.setIfInBounds_toArray, List.set_cons_zero, List.set_cons_succ]
          refine wpAnyH_take (i := 4) (v := ?_) (by simp only [List.getElem?_toArray, List.getElem?_cons_succ, List.getElem?_cons_zero]; rfl) (by kernel_rfl) (by kernel_rfl) (by kernel_rfl) (fun _ _ _ h => h) (Or.inl ⟨by rfl, ?_⟩) hHeld ?_
          rotate_left
          · (intro w hSw; (try dsimp only at hSw); go_simp; try with_reducible rfl)
          try simp only [Act.put, List.setIfInBounds_toArray, List.set_cons_zero, List.set_cons_succ]
          refine wpAnyH_take (i := 5) (v := ?_) (by simp only [List.getElem?_toArray, List.getElem?_cons_succ, List.getElem?_cons_zero]; rfl) (by kernel_rfl) (by kernel_rfl) (by kernel_rfl) (fun _ _ _ h => h) (Or.inl ⟨by rfl, ?_⟩) hHeld ?_
          rotate_left
          · (intro w hSw; (try dsimp only at hSw); go_simp; try with_reducible rfl)
          try simp only [Act.put, List.setIfInBounds_toArray, List.set_cons_zero, List.set_cons_succ]
          refine wpAnyH_take (i := 6) (v := (.bool false)) (by simp only [List.getElem?_toArray, List.getElem?_cons_succ, List.getElem?_cons_zero]; rfl) (by kernel_rfl) (by kernel_rfl) (by kernel_rfl) (fun _ _ _ h => h) (Or.inl ⟨by rfl, ?_⟩) hHeld ?_
          · (intro w hSw; (try dsimp only at hSw); go_simp; try with_reducible rfl)
          try simp only [Act.put, List.setIfInBounds_toArray, List.set_cons_zero, List.set_cons_succ]
          refine wpAnyH_take (i := 7) (v := (.bool false)) (by simp only [List.getElem?_toArray, List.getElem?_cons_succ, List.getElem?_cons_zero]; rfl) (by kernel_rfl) (by kernel_rfl) (by kernel_rfl) (fun _ _ _ h => h) (Or.inl ⟨by rfl, ?_⟩) hHeld ?_
          · (intro w hSw; (try dsimp only at hSw); go_simp; try with_reducible rfl)
          try simp only [Act.put, List.setIfInBounds_toArray, List.set_cons_zero, List.set_cons_succ]
          refine wpAnyH_take (i := 8) (v := ?_) (by simp only [List.getElem?_toArray, List.getElem?_cons_succ, List.getElem?_cons_zero]; rfl) (by kernel_rfl) (by kernel_rfl) (by kernel_rfl) (fun _ _ _ h => h) (Or.inl ⟨by rfl, ?_⟩) hHeld ?_
          rotate_left
          · (intro w hSw; (try dsimp only at hSw); go_simp; try with_reducible rfl)
          try simp only [Act.put, List.setIfInBounds_toArray, List.set_cons_zero, List.set_cons_succ]
          refine wpAnyH_take (i := 9) (v := ?_) (by simp only [List.getElem?_toArray, List.getElem?_cons_succ, List.getElem?_cons_zero]; rfl) (by kernel_rfl) (by kernel_rfl) (by kernel_rfl) (fun _ _ _ h => h) (Or.inl ⟨by rfl, ?_⟩) hHeld ?_
          rotate_left
          · (intro w hSw; (try dsimp only at hSw); go_simp; try with_reducible rfl)
          try simp only [Act.put, List.setIfInBounds_toArray, List.set_cons_zero, List.set_cons_succ]
          refine wpAnyH_take (i := 11) (v := ?_) (by simp only [List.getElem?_toArray, List.getElem?_cons_succ, List.getElem?_cons_zero]; rfl) (by kernel_rfl) (by kernel_rfl) (by kernel_rfl) (fun _ _ _ h => h) (Or.inl ⟨by rfl, ?_⟩) hHeld ?_
          rotate_left
          · (intro w hSw; (try dsimp only at hSw); go_simp; try with_reducible rfl)
          try simp only [Act.put, List.setIfInBounds_toArray, List.set_cons_zero, List.set_cons_succ]
          refine wpAnyH_take (i := 12) (v := ?_) (by simp only [List.getElem?_toArray, List.getElem?_cons_succ, List.getElem?_cons_zero]; rfl) (by kernel_rfl) (by kernel_rfl) (by kernel_rfl) (fun _ _ _ h => h) (Or.inl ⟨by rfl, ?_⟩) hHeld ?_
          rotate_left
          · (intro w hSw; (try dsimp only at hSw); go_simp; try with_reducible rfl)
          try simp only [Act.put, List.setIfInBounds_toArray, List.set_cons_zero, List.set_cons_succ]
          refine wpAnyH_ready (rs := [10]) (by kernel_rfl) (by simp) ?_
          refine AllReadyH.cons rfl (fun K hK => ?_) AllReadyH.nil
          go_simp
          (refine (zsLen HP.out.drew.p2).mono ?_; rintro en wz ⟨rfl, rfl⟩; go_simp)
          refine hK.out _ _ ?_ (fun hHeld => ?_)
          · exact cellsO HP.out.drew
          clear hK K
          try simp only [Act.put, List.setIfInBounds_toArray, List.set_cons_zero, List.set_cons_succ]
          refine wpAnyH_take (i := 13) (v := (.bool false)) (by simp only [List.getElem?_toArray, List.getElem?_cons_succ, List.getElem?_cons_zero]; rfl) (by kernel_rfl) (by kernel_rfl) (by kernel_rfl) (fun _ _ _ h => h) (Or.inl ⟨by rfl, ?_⟩) hHeld ?_
          · (intro w hSw; (try dsimp only at hSw); go_simp; try with_reducible rfl)
          try simp only [Act.put, List.setIfInBounds_toArray, List.set_cons_zero, List.set_cons_succ]
          refine wpAnyH_take (i := 14) (v := (.bool false)) (by simp only [List.getElem?_toArray, List.getElem?_cons_succ, List.getElem?_cons_zero]; rfl) (by kernel_rfl) (by kernel_rfl) (by kernel_rfl) (fun _ _ _ h => h) (Or.inl ⟨by rfl, ?_⟩) hHeld ?_
          · (intro w hSw; (try dsimp only at hSw); go_simp; try with_reducible rfl)
          try simp only [Act.put, List.setIfInBounds_toArray, List.set_cons_zero, List.set_cons_succ]
          refine wpAnyH_take (i := 15) (v := ?_) (by simp only [List.getElem?_toArray, List.getElem?_cons_succ, List.getElem?_cons_zero]; rfl) (by kernel_rfl) (by kernel_rfl) (by kernel_rfl) (fun _ _ _ h => h) (Or.inl ⟨by rfl, ?_⟩) hHeld ?_
          rotate_left
          · (intro w hSw; (try dsimp only at hSw); go_simp; try with_reducible rfl)
          try simp only [Act.put, List.setIfInBounds_toArray, List.set_cons_zero, List.set_cons_succ]
          refine wpAnyH_take (i := 16) (v := ?_) (by simp only [List.getElem?_toArray, List.getElem?_cons_succ, List.getElem?_cons_zero]; rfl) (by kernel_rfl) (by kernel_rfl) (by kernel_rfl) (fun _ _ _ h => h) (Or.inl ⟨by rfl, ?_⟩) hHeld ?_
          rotate_left
          · (intro w hSw; (try dsimp only at hSw); go_simp; try with_reducible rfl)
          try simp only [Act.put, List.setIfInBounds_toArray, List.set_cons_zero, List.set_cons_succ]
          refine wpAnyH_take (i := 18) (v := ?_) (by simp only [List.getElem?_toArray, List.getElem?_cons_succ, List.getElem?_cons_zero]; rfl) (by kernel_rfl) (by kernel_rfl) (by kernel_rfl) (fun _ _ _ h => h) (Or.inl ⟨by rfl, ?_⟩) hHeld ?_
          rotate_left
          · (intro w hSw; (try dsimp only at hSw); go_simp; try with_reducible rfl)
          try simp only [Act.put, List.setIfInBounds_toArray, List.set_cons_zero, List.set_cons_succ]
          refine wpAnyH_ready (rs := [17]) (by kernel_rfl) (by simp) ?_
          refine AllReadyH.cons rfl (fun K hK => ?_) AllReadyH.nil
          go_simp
          (refine (zsAll HP.out.drew.p2).mono ?_; rintro en wa ⟨va, rfl, SS⟩; have HA : Hid (Sat w wa (rS va r2 * (rS (.slice A7 r2.length c7) r2 * (pts ob (opO o) * (zs b r2 * old w))))) := Lib.hid (SS.cong (by ac_rfl)); clear SS; go_simp)
          refine hK.out _ _ ?_ (fun hHeld => ?_)
          · exact cellsO HA.out.p3
          clear hK K
          try simp only [Act.put, List.setIfInBounds_toArray, List.set_cons_zero, List.set_cons_succ]
          refine wpAnyH_ready (rs := [19]) (by kernel_rfl) (by simp) ?_
          refine AllReadyH.cons rfl (fun K hK => ?_) AllReadyH.nil
          go_simp
          (refine (zSame (Nat.le_of_lt HRB.out) HA.out).mono ?_; rintro en wb ⟨rfl, SS⟩; have HB : Hid (Sat w wb (pts ob (opO o) * (zs b r2 * (rS (.slice A7 r2.length c7) r2 * old w)))) := Lib.hid (SS.drop1.cong (by ac_rfl)); clear SS; go_simp)
          refine hK.out _ _ ?_ (fun hHeld => ?_)
          · exact cellsO HB.out
          clear hK K
          try simp only [Act.put, List.setIfInBounds_toArray, List.set_cons_zero, List.set_cons_succ]
          refine wpAnyH_take (i := 20) (v := (.bool false)) (by simp only [List.getElem?_toArray, List.getElem?_cons_succ, List.getElem?_cons_zero]; rfl) (by kernel_rfl) (by kernel_rfl) (by kernel_rfl) (fun _ _ _ h => h) (Or.inl ⟨by rfl, ?_⟩) hHeld ?_
          · (intro w hSw; (try dsimp only at hSw); go_simp; try with_reducible rfl)
          try simp only [Act.put, List.setIfInBounds_toArray, List.set_cons_zero, List.set_cons_succ]
          refine wpAnyH_take (i := 21) (v := (.bool false)) (by simp only [List.getElem?_toArray, List.getElem?_cons_succ, List.getElem?_cons_zero]; rfl) (by kernel_rfl) (by kernel_rfl) (by kernel_rfl) (fun _ _ _ h => h) (Or.inl ⟨by rfl, ?_⟩) hHeld ?_
          · (intro w hSw; (try dsimp only at hSw); go_simp; try with_reducible rfl)
          try simp only [Act.put, List.setIfInBounds_toArray, List.set_cons_zero, List.set_cons_succ]
          refine wpAnyH_take (i := 22) (v := ?_) (by simp only [List.getElem?_toArray, List.getElem?_cons_succ, List.getElem?_cons_zero]; rfl) (by kernel_rfl) (by kernel_rfl) (by kernel_rfl) (fun _ _ _ h => h) (Or.inl ⟨by rfl, ?_⟩) hHeld ?_
          rotate_left
          · (intro w hSw; (try dsimp only at hSw); go_simp; try with_reducible rfl)
          try simp only [Act.put, List.setIfInBounds_toArray, List.set_cons_zero, List.set_cons_succ]
          refine wpAnyH_take (i := 23) (v := ?_) (by simp only [List.getElem?_toArray, List.getElem?_cons_succ, List.getElem?_cons_zero]; rfl) (by kernel_rfl) (by kernel_rfl) (by kernel_rfl) (fun _ _ _ h => h) (Or.inl ⟨by rfl, ?_⟩) hHeld ?_
          rotate_left
          · (intro w hSw; (try dsimp only at hSw); go_simp; try with_reducible rfl)
          try simp only [Act.put, List.setIfInBounds_toArray, List.set_cons_zero, List.set_cons_succ]
          refine wpAnyH_take (i := 24) (v := ?_) (by simp only [List.getElem?_toArray, List.getElem?_cons_succ, List.getElem?_cons_zero]; rfl) (by kernel_rfl) (by kernel_rfl) (by kernel_rfl) (fun _ _ _ h => h) (Or.inl ⟨by rfl, ?_⟩) hHeld ?_
          rotate_left
          · (intro w hSw; (try dsimp only at hSw); go_simp; try with_reducible rfl)
          try simp only [Act.put, List.setIfInBounds_toArray, List.set_cons_zero, List.set_cons_succ]
          refine wpAnyH_take (i := 25) (v := ?_) (by simp only [List.getElem?_toArray, List.getElem?_cons_succ, List.getElem?_cons_zero]; rfl) (by kernel_rfl) (by kernel_rfl) (by kernel_rfl) (fun _ _ _ h => h) (Or.inl ⟨by rfl, ?_⟩) hHeld ?_
          rotate_left
          · (intro w hSw; (try dsimp only at hSw); go_simp; try with_reducible rfl)
          try simp only [Act.put, List.setIfInBounds_toArray, List.set_cons_zero, List.set_cons_succ]
          refine wpAnyH_take (i := 26) (v := ?_) (by simp only [List.getElem?_toArray, List.getElem?_cons_succ, List.getElem?_cons_zero]; rfl) (by kernel_rfl) (by kernel_rfl) (by kernel_rfl) (fun _ _ _ h => h) (Or.inl ⟨by rfl, ?_⟩) hHeld ?_
          rotate_left
          · (intro w hSw; (try dsimp only at hSw); go_simp; try with_reducible rfl)
          try simp only [Act.put, List.setIfInBounds_toArray, List.set_cons_zero, List.set_cons_succ]
          refine wpAnyH_take (i := 27) (v := ?_) (by simp only [List.getElem?_toArray, List.getElem?_cons_succ, List.getElem?_cons_zero]; rfl) (by kernel_rfl) (by kernel_rfl) (by kernel_rfl) (fun _ _ _ h => h) (Or.inl ⟨by rfl, ?_⟩) hHeld ?_
          rotate_left
          · (intro w hSw; (try dsimp only at hSw); go_simp; try with_reducible rfl)
          try simp only [Act.put, List.setIfInBounds_toArray, List.set_cons_zero, List.set_cons_succ]
          refine wpAnyH_take (i := 29) (v := ?_) (by simp only [List.getElem?_toArray, List.getElem?_cons_succ, List.getElem?_cons_zero]; rfl) (by kernel_rfl) (by kernel_rfl) (by kernel_rfl) (fun _ _ _ h => h) (Or.inl ⟨by rfl, ?_⟩) hHeld ?_
          rotate_left
          · (intro w hSw; (try dsimp only at hSw); go_simp; try with_reducible rfl)
          try simp only [Act.put, List.setIfInBounds_toArray, List.set_cons_zero, List.set_cons_succ]
          refine wpAnyH_take (i := 30) (v := ?_) (by simp only [List.getElem?_toArray, List.getElem?_cons_succ, List.getElem?_cons_zero]; rfl) (by kernel_rfl) (by kernel_rfl) (by kernel_rfl) (fun _ _ _ h => h) (Or.inl ⟨by rfl, ?_⟩) hHeld ?_
          rotate_left
          · (intro w hSw; (try dsimp only at hSw); go_simp; try with_reducible rfl)
          try simp only [Act.put, List.setIfInBounds_toArray, List.set_cons_zero, List.set_cons_succ]
          refine wpAnyH_take (i := 31) (v := ?_) (by simp only [List.getElem?_toArray, List.getElem?_cons_succ, List.getElem?_cons_zero]; rfl) (by kernel_rfl) (by kernel_rfl) (by kernel_rfl) (fun _ _ _ h => h) (Or.inl ⟨by rfl, ?_⟩) hHeld ?_
          rotate_left
          · (intro w hSw; (try dsimp only at hSw); go_simp; try with_reducible rfl)
          try simp only [Act.put, List.setIfInBounds_toArray, List.set_cons_zero, List.set_cons_succ]
          refine wpAnyH_take (i := 32) (v := ?_) (by simp only [List.getElem?_toArray, List.getElem?_cons_succ, List.getElem?_cons_zero]; rfl) (by kernel_rfl) (by kernel_rfl) (by kernel_rfl) (fun _ _ _ h => h) (Or.inl ⟨by rfl, ?_⟩) hHeld ?_
          rotate_left
          · (intro w hSw; (try dsimp only at hSw); go_simp; try with_reducible rfl)
          try simp only [Act.put, List.setIfInBounds_toArray, List.set_cons_zero, List.set_cons_succ]
          refine wpAnyH_take (i := 33) (v := ?_) (by simp only [List.getElem?_toArray, List.getElem?_cons_succ, List.getElem?_cons_zero]; rfl) (by kernel_rfl) (by kernel_rfl) (by kernel_rfl) (fun _ _ _ h => h) (Or.inl ⟨by rfl, ?_⟩) hHeld ?_
          rotate_left
          · (intro w hSw; (try dsimp only at hSw); go_simp; try with_reducible rfl)
          try simp only [Act.put, List.setIfInBounds_toArray, List.set_cons_zero, List.set_cons_succ]
          refine wpAnyH_ready (rs := [28]) (by kernel_rfl) (by simp) ?_
          refine AllReadyH.cons rfl (fun K hK => ?_) AllReadyH.nil
          go_simp
          (refine (zsRank HSO.out HB.out.p2).mono ?_; rintro en wc ⟨rfl, SS⟩; have HC2 : Hid (Sat w wc (pts ob (opO o) * (zs b r2 * (rS (.slice A7 r2.length c7) r2 * old w)))) := Lib.hid SS.p2; clear SS; go_simp)
          refine hK.out _ _ ?_ (fun hHeld => ?_)
          · exact cellsO HC2.out
          clear hK K
          try simp only [Act.put, List.setIfInBounds_toArray, List.set_cons_zero, List.set_cons_succ]
          refine wpAnyH_ready (rs := [34]) (by kernel_rfl) (by simp) ?_
          refine AllReadyH.cons rfl (fun K hK => ?_) AllReadyH.nil
          go_simp
          (refine (rRank24 HNX.out.ok HC2.out.p3).mono ?_; rintro en wd ⟨rfl, SS⟩; have HD : Hid (Sat w wd (pts ob (opO o) * (zs b r2 * (rS (.slice A7 r2.length c7) r2 * old w)))) := Lib.hid (SS.cong (by ac_rfl)); clear SS; go_simp)
          refine hK.out _ _ ?_ (fun hHeld => ?_)
          · exact cellsO HD.out
          clear hK K
          try simp only [Act.put, List.setIfInBounds_toArray, List.set_cons_zero, List.set_cons_succ]
          refine wpAnyH_take (i := 35) (v := (.bool false)) (by simp only [List.getElem?_toArray, List.getElem?_cons_succ, List.getElem?_cons_zero]; rfl) (by kernel_rfl) (by kernel_rfl) (by kernel_rfl) (fun _ _ _ h => h) (Or.inl ⟨by rfl, ?_⟩) hHeld ?_
          · (intro w hSw; (try dsimp only at hSw); go_simp; try with_reducible rfl)
          try simp only [Act.put, List.setIfInBounds_toArray, List.set_cons_zero, List.set_cons_succ]
          refine wpAnyH_take (i := 36) (v := (.bool false)) (by simp only [List.getElem?_toArray, List.getElem?_cons_succ, List.getElem?_cons_zero]; rfl) (by kernel_rfl) (by kernel_rfl) (by kernel_rfl) (fun _ _ _ h => h) (Or.inl ⟨by rfl, ?_⟩) hHeld ?_
          · (intro w hSw; (try dsimp only at hSw); go_simp; try with_reducible rfl)
          try simp only [Act.put, List.setIfInBounds_toArray, List.set_cons_zero, List.set_cons_succ]
          refine wpAnyH_done (by kernel_rfl) ?_ _
          refine NoPanic.normal ?_
          -- END A
          have HE : Hid (Sat w wd (zs b r2 * (rS (.slice A7 r2.length c7) r2 * old w))) := Lib.hid HD.out.drop1
          clear HP HA HB HC2 HD hHeld
          go_wp2_with fail
          go_roundw
          case rel => exact ⟨i + 1, r2, A7, c7, by simp, rfl, by omega, HNX, HE⟩
          case measure => simp [RowKit.intOf]; omega
      · go_wp2_with fail
        refine (aliveZs HSi.out).mono ?_
        rintro en w9 ⟨rfl, S9⟩
        have HS9 := Lib.hid S9.drop1.drop1.old1
        clear S9
        go_wp2_with fail
        go_ret
        exact ⟨rfl, HS9.out⟩
end Go.Sl
/-! ### LawZsPW -/
namespace Go.Sl
open Go.RowKit Go.Proofs Go.Proofs.YteakblblpiihpaaW.PrintWords Go.Proofs.Yteakblblpiihpaa.PZs
theorem playsZsWalk {w : World} (seed : Int) (_ : (Lit.int .u64 seed).wf = true) {A0 : Option Addr} {c0 : Nat} {l : List OpZ} (hC : Kd.C k62 w A0 l.length l) (hc : l.length ≤ c0) (hok : ∀ x ∈ l, (Lit.int .i64 x.f2).wf = true) :
    Calls Try.prog 5 #[.int .u64 seed, .slice A0 l.length c0] w fun en w' => en = .returned (.bool true) ∧ Below w.heap.size w w' := playsZs hC hc hok
end Go.Sl
/-! ### RowZsetPlays -/
namespace Go.Proofs.Yteakblblpiihpaa.zsetPlays
open Go.ChangeShapes Go.WideShapes Go.ChangeAt Go.RowKit Go.Sl Go.Proofs.YteakblblpiihpaaW.PrintWords
open Go.ChangeMaps (open_string shut_string)
set_option linter.unusedVariables false
theorem own : ownKnob Try.prog.godebug = none := by kernel_rfl
theorem laidOut : laidOutB Try.prog = true := by kernel_rfl
set_option maxRecDepth 100000 in
theorem lifted (os : Os) (started : os.Started) (H : Type) (enc : TypeId × Value → H) :
    ReturnsInHanded {} Try.checked os 5 .any (Rows.zsetPlaysSpec.pre6 enc Try.prog Try.f5 Rows.zsetPlaysRow.domain false) (Rows.zsetPlaysSpec.post enc Try.prog Try.f5 false true false false) := by
  refine returnsInHanded_of_change_sized (C := Try.checked) own started (by kernel_rfl) Try.func5
    (ChangeSpec.witness6 (enc := enc) (C := Try.checked) false ⟨#[], #[.int .u64 0, .slice none 0 0], []⟩ 8 (by kernel_rfl) (by kernel_rfl) (by kernel_rfl) (by kernel_rfl)) ?_
  intro W base args ds gs before hval0 hW hcnd hsz0 _
  have hval : ∀ (j : Nat) t v, Try.f5.params[j]? = some t → args[j]? = some v → Value.okWide Try.prog W .any base t v := hval0
  have hW' := hW
  obtain ⟨p, q, hA0, hV, rfl, hfz, hnd⟩ := hW
  have hA : DataW.TrodAll enc Try.prog W 0 (fun _ => true) true Try.f5.params.toList args.toList ds p := hA0
  rw [Try.params5] at hA hval
  obtain ⟨v0, vs0, d0, ds0, p0, q0, hargs, rfl, rfl, h0, r0⟩ := trodAll_cons hA
  obtain ⟨v1, vs1, d1, ds1, p1, q1, rfl, rfl, rfl, h1, r1⟩ := trodAll_cons r0
  obtain ⟨rfl, rfl, rfl⟩ := trodAll_nil r1
  obtain rfl : args = #[v0, v1] := by cases args; simp_all
  obtain ⟨rfl, rfl⟩ := trodVars_none hV
  obtain ⟨a0, rfl, rfl, rfl, w0⟩ := open_int Try.underlying39 (hval 0 39 v0 rfl rfl) h0
  obtain ⟨a1, len1, cap1, rfl⟩ := okWide_slice Try.underlying59 (hval 1 59 v1 rfl rfl)
  have k1 := h1
  have lt1 : ∀ x ∈ p1, x.block < W.heap.size := by obtain ⟨m, hm⟩ := k1; exact DataW.trod_lt m _ _ _ hm
  obtain ⟨l1, rfl, hc1, hC1, hk1⟩ := (opensOpsZ).arg h1
  clear hA0 hval0 hsz0
  refine (Go.Sl.playsZsWalk a0 w0 hC1 hc1 hk1).mono fun e W' ⟨he, bel⟩ => ?_
  subst he
  exact ⟨_, rfl, _, _, _, [], _, [], hW', trodAll_mk1 (shut_bool Try.underlying4 _), (trodAll_cons_mk (shut_int Try.underlying39 w0) (trodAll_cons_mk (Below.trod laidOut (by kernel_rfl) (of_decide_eq_true (by kernel_rfl)) k1 bel lt1) trodAll_mk0)), rfl, bel.frame _, fun h => by cases h⟩
theorem over : Rows.zsetPlaysRow.holds Try.pinned (OpenSpec.ofChange Rows.zsetPlaysSpec) :=
  OpenClaim.holds_of_wide 5 Try.f5 rfl rfl rfl rfl rfl rfl rfl ⟨rfl, rfl, rfl, rfl, rfl⟩ rfl rfl rfl rfl rfl (by kernel_rfl) Try.func5 (by kernel_rfl)
    (of_decide_eq_true (by kernel_rfl)) (by unfold Func.isWrapper; first | (rw [if_pos (by decide +kernel)]; kernel_rfl) | (rw [if_neg (by decide +kernel)]; exact ⟨rfl, rfl⟩))
    (fun os started H enc _ => lifted os started H enc)
end Go.Proofs.Yteakblblpiihpaa.zsetPlays
namespace Go.Proofs.Yteakblblpiihpaa
theorem zsetPlays_holds : Rows.ZsetPlaysSaid := zsetPlays.over
#print axioms zsetPlays_holds
end Go.Proofs.Yteakblblpiihpaa
