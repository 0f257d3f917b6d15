/-
  'mewslaw24.ZsetScans' answers true at every input: gone through from 0 on till 0 is told, each member is met once, with its score; a set that is none has nothing. No condition.
  'mewslaw24.ZsetScans': the walk, for the row.
  'mewslaw24.ZsetScans': the walk.
  Sorted sets that are none.
  Sorted sets: what was gone through, put together again.
  Sorted sets: Scan.
  Sorted sets: Add, Pop.
-/
import Derived.Test.YteakblblpiihpaaMgF
import Derived.Test.YteakblblpiihpaaMgG
import Derived.Test.YteakblblpiihpaaMgE
import Derived.Deep.RegionHeld3
import Derived.Test.YteakblblpiihpaaRows
import Derived.WalkKit
import Derived.ProofKit
import Derived.OpenShut
import Derived.ShutString
import Derived.ChangeOld
import Derived.Below
import Derived.SizedLaws
import Derived.Carry
/-! ### ZsI -/
namespace Go.Sl
open Go.RowKit Go.Proofs Go.Sl Go.Proofs.YteakblblpiihpaaW.PrintWords Go.Proofs.Yteakblblpiihpaa.PZs Go.Sl.DI64
set_option linter.unusedVariables false
set_option linter.unusedSimpArgs false
set_option maxRecDepth 100000

/-- Two numbers added: there is room. -/
def fits (a b : Int) : Bool := decide (-9223372036854775808 ≤ a + b ∧ a + b ≤ 9223372036854775807)
theorem numAdd_f {a b : Int} (ha : -9223372036854775808 ≤ a ∧ a ≤ 9223372036854775807) (hb : -9223372036854775808 ≤ b ∧ b ≤ 9223372036854775807) : num_Add.f a b = some (if fits a b then (a + b, true) else (0, false)) := by
  unfold num_Add.f fits
  by_cases h : -9223372036854775808 ≤ a + b ∧ a + b ≤ 9223372036854775807
  · have hw : wrap64 (a + b) = a + b := by unfold wrap64; omega
    rw [hw, decide_eq_true h, if_pos rfl]
    by_cases h2 : b > 0
    · rw [if_neg]
      have : a + b > a := by omega
      simp [this, h2]
    · have : ¬ a + b > a := by omega
      rw [if_neg]
      simp [this, h2]
  · rw [decide_eq_false h, show (if (false = true) then (a + b, true) else ((0 : Int), false)) = ((0 : Int), false) from rfl]
    have hw : wrap64 (a + b) = if a + b < 0 then a + b + 18446744073709551616 else a + b - 18446744073709551616 := by unfold wrap64; split <;> omega
    rw [hw]
    by_cases e : a + b < 0
    · rw [if_pos e]
      have h1 : a + b + 18446744073709551616 > a := by omega
      have h2 : ¬ b > 0 := by omega
      rw [if_pos (by simp [h1, h2]), if_neg (by omega)]
    · rw [if_neg e]
      have h1 : ¬ a + b - 18446744073709551616 > a := by omega
      have h2 : b > 0 := by omega
      rw [if_pos (by simp [h1, h2]), if_neg (by omega)]
theorem refAdd_f {a b : Int} (ha : -9223372036854775808 ≤ a ∧ a ≤ 9223372036854775807) (hb : -9223372036854775808 ≤ b ∧ b ≤ 9223372036854775807) : mewsref01_Add.f a b = some (if fits a b then (a + b, true) else (0, false)) := by
  unfold mewsref01_Add.f fits
  have w1 : b > 0 → wrap64 (9223372036854775807 - b) = 9223372036854775807 - b := fun h => by unfold wrap64; omega
  have w2 : b < 0 → wrap64 ((-9223372036854775808) - b) = -9223372036854775808 - b := fun h => by unfold wrap64; omega
  by_cases h : -9223372036854775808 ≤ a + b ∧ a + b ≤ 9223372036854775807
  · have hw : wrap64 (a + b) = a + b := by unfold wrap64; omega
    rw [hw, decide_eq_true h, if_pos rfl]
    by_cases h2 : b > 0
    · rw [if_pos h2, w1 h2, if_neg (by omega), if_neg (by omega)]
    · rw [if_neg h2]
      by_cases h3 : b < 0
      · rw [if_pos h3, w2 h3, if_neg (by omega)]
      · rw [if_neg h3]
  · rw [decide_eq_false h, show (if (false = true) then (a + b, true) else ((0 : Int), false)) = ((0 : Int), false) from rfl]
    by_cases h2 : b > 0
    · rw [if_pos h2, w1 h2, if_pos (by omega)]
    · have h3 : b < 0 := by omega
      rw [if_neg h2, if_pos h3, w2 h3, if_pos (by omega)]
/-- What 'Add' leaves, and tells. -/
def scO' (l : List Sc) (m : ByteArray) : Int := (findS l m).getD 0
def addL (l : List Sc) (m : ByteArray) (by_ : Int) : List Sc := if fits (scO' l m) by_ then putS l ⟨m, scO' l m + by_⟩ else l
def addN (l : List Sc) (m : ByteArray) (by_ : Int) : Int := if fits (scO' l m) by_ then scO' l m + by_ else 0
def addE (l : List Sc) (m : ByteArray) (by_ : Int) : Int := if fits (scO' l m) by_ then 0 else 13
/-- Scores are numbers of 64 bits. -/
def okS (l : List Sc) : Prop := ∀ x ∈ l, -9223372036854775808 ≤ x.f1 ∧ x.f1 ≤ 9223372036854775807
theorem okS_find {l : List Sc} (h : okS l) (m : ByteArray) : -9223372036854775808 ≤ scO' l m ∧ scO' l m ≤ 9223372036854775807 := by
  unfold scO'
  cases hf : findS l m with
  | none => simp
  | some v =>
    unfold findS at hf
    obtain ⟨x, hx, rfl⟩ := Option.map_eq_some_iff.1 hf
    exact h x (List.mem_of_find?_eq_some hx)
theorem okS_put {l : List Sc} {x : Sc} (h : okS l) (hx : -9223372036854775808 ≤ x.f1 ∧ x.f1 ≤ 9223372036854775807) : okS (putS l x) := fun y hy => by
  rcases List.mem_cons.1 ((put_perm l x).mem_iff.1 hy) with rfl | hy
  · exact hx
  · exact h y (List.mem_filter.1 hy).1
theorem okS_add {l : List Sc} (h : okS l) (m : ByteArray) (b : Int) : okS (addL l m b) := by
  unfold addL
  split
  · rename_i hf
    unfold fits at hf
    exact okS_put h (of_decide_eq_true hf)
  · exact h
set_option maxHeartbeats 4000000 in
/-- 'Add'. -/
theorem zsAdd {w0 w : World} {s : Nat} {l : List Sc} {m : ByteArray} {b : Int} {R : HP} (hm : m.size ≤ maxLen) (hb : l.length < 1000000) (ho : okS l) (h64 : -9223372036854775808 ≤ b ∧ b ≤ 9223372036854775807) (S : Sat w0 w (zs s l * R)) :
    Calls Try.prog 26 #[pt s, .string m, .int .i64 b] w fun en w' => en = .returned (.tuple #[.int .i64 (addN l m b), .int .i64 (addE l m b)]) ∧ Sat w0 w' (zs s (addL l m b) * R) := by
  obtain ⟨nn, hnn⟩ : ∃ nn, nn = addN l m b := ⟨_, rfl⟩
  obtain ⟨ee, hee⟩ : ∃ ee, ee = addE l m b := ⟨_, rfl⟩
  rw [← hnn, ← hee]
  have HF := Lib.hid (numAdd_f (okS_find ho m) h64)
  obtain ⟨sc, hsc⟩ : ∃ sc, sc = scO' l m := ⟨_, rfl⟩
  rw [← hsc] at HF
  have HSV : Hid (scoreV l m = .tuple #[.int .i64 sc, .bool (findS l m).isSome]) := Lib.hid (by rw [hsc]; rfl)
  have HNN := Lib.hid hnn
  have HEE := Lib.hid hee
  have HSC := Lib.hid hsc
  have HM := Lib.hid hm
  have HB := Lib.hid hb
  have HS := Lib.hid S
  clear S hm hb ho h64 hnn hee hsc
  go_enter Try.func26, Try.ntmps26
  go_wp2_with fail
  refine (zsReady HS.out).mono ?_
  rintro en w' ⟨rfl, rfl⟩
  go_wp2_with fail
  refine (zsScore HM.out HS.out).mono ?_
  rintro en w1 ⟨rfl, S1⟩
  rw [HSV.out]
  have HS1 := Lib.hid S1
  clear S1 HS
  go_wp2_with fail
  cases hf : fits sc b with
  | false =>
    have HG : Hid (num_Add.f sc b = some (0, false)) := Lib.hid (by rw [HF.out, hf]; rfl)
    have HFB := Lib.hid hf
    clear hf
    refine (num_Add.calls sc b 0 false w1 HG.out).mono ?_
    rintro en w2 ⟨rfl, hd⟩
    have HS2 := Lib.hid (drawn_satZ HS1.out hd)
    clear hd HS1
    go_wp2_with fail
    go_ret2
    refine ⟨by rw [HNN.out, HEE.out]; unfold addN addE; rw [← HSC.out, HFB.out]; rfl, ?_⟩
    have : addL l m b = l := by unfold addL; rw [← HSC.out, HFB.out]; rfl
    rw [this]
    exact HS2.out
  | true =>
    have HG : Hid (num_Add.f sc b = some (sc + b, true)) := Lib.hid (by rw [HF.out, hf]; rfl)
    have HFB := Lib.hid hf
    clear hf
    refine (num_Add.calls sc b (sc + b) true w1 HG.out).mono ?_
    rintro en w2 ⟨rfl, hd⟩
    have HS2 := Lib.hid (drawn_satZ HS1.out hd)
    clear hd HS1
    go_wp2_with fail
    refine (zsPut HM.out HB.out HS2.out).mono ?_
    rintro en w3 ⟨rfl, S3⟩
    have HS3 := Lib.hid S3
    clear S3 HS2
    go_wp2_with fail
    go_ret2
    refine ⟨by rw [HNN.out, HEE.out]; unfold addN addE; rw [← HSC.out, HFB.out]; rfl, ?_⟩
    have : addL l m b = putS l ⟨m, sc + b⟩ := by unfold addL; rw [← HSC.out, HFB.out]; rfl
    rw [this]
    exact HS3.out
/-- Popped: the first ones from an end, and what stays. -/
def popT (l : List Sc) (back : Bool) (count : Int) : List Sc := (wayS l back).take count.toNat
def popL (l : List Sc) (back : Bool) (count : Int) : List Sc := outsS l ((popT l back count).map (·.f0))
theorem span_pop (l : List Sc) (back : Bool) {count : Int} (h : 1 ≤ count) : spanS l 0 (count - 1) back = popT l back count := by
  unfold spanS cutS popT
  have hw := wayS_length l back
  have e0 : spF l.length 0 = 0 := by unfold spF; rw [if_neg (by omega)]
  have e1 : spT l.length (count - 1) = min (count - 1) ((l.length : Int) - 1) := by unfold spT; rw [if_neg (by omega)]
  rw [e0, e1]
  by_cases e : l.length = 0
  · have : wayS l back = [] := List.eq_nil_of_length_eq_zero (by omega)
    rw [this]
    simp
  · rw [if_neg (by omega)]
    simp only [Int.toNat_zero, List.drop_zero]
    by_cases e2 : count ≤ l.length
    · congr 1
      omega
    · rw [List.take_of_length_le (by omega), List.take_of_length_le (by omega)]
set_option maxHeartbeats 8000000 in
/-- 'Pop'. -/
theorem zsPop {w0 w : World} {s : Nat} {back : Bool} {count : Int} {l : List Sc} {R : HP} (h64 : -9223372036854775808 ≤ count ∧ count ≤ 9223372036854775807) (S : Sat w0 w (zs s l * R)) :
    Calls Try.prog 30 #[pt s, .bool back, .int .i64 count] w fun en w' => ∃ v, en = .returned v ∧ Sat w0 w' (rS v (popT l back count) * (zs s (popL l back count) * R)) := by
  by_cases hc : count < 1
  · have hcd : decide (count < 1) = true := by simpa using hc
    have HE : Hid (popT l back count = []) := Lib.hid (by unfold popT; rw [show count.toNat = 0 by omega]; rfl)
    have HS := Lib.hid S
    clear S hc
    go_enter Try.func30, Try.ntmps30
    go_wp2_with fail
    go_ret
    refine ⟨_, rfl, ?_⟩
    have : popL l back count = l := by unfold popL; rw [HE.out]; rfl
    rw [this, HE.out]
    exact HS.out.row_nil _ _
  have hcd : decide (count < 1) = false := by simpa using hc
  obtain ⟨T, hT⟩ : ∃ T, T = popT l back count := ⟨_, rfl⟩
  have hsp := span_pop l back (show 1 ≤ count by omega)
  have HSP : Hid (spanS l 0 (count - 1) back = T) := Lib.hid (by rw [hT]; exact hsp)
  have HPL : Hid (popL l back count = outsS l (T.map (·.f0))) := Lib.hid (by unfold popL; rw [← hT])
  have hz := S.zs_ok
  have hTl : T.length ≤ l.length := by rw [hT]; unfold popT; rw [List.length_take, wayS_length]; omega
  have hTb : (T.length : Int) ≤ 1000000 := by have := hz.big; omega
  have HTM : Hid (∀ x ∈ T, x.f0.size ≤ maxLen) := Lib.hid (fun x hx => by
    rw [hT] at hx
    have := List.mem_of_mem_take hx
    unfold wayS at this
    split at this
    · exact hz.sz x (List.mem_reverse.1 this)
    · exact hz.sz x this)
  rw [← hT]
  have HS := Lib.hid S
  clear S hT hsp hz hTl
  go_enter Try.func30, Try.ntmps30
  go_wp2_with fail
  refine (zsSpan (by omega) (by omega) (by omega) (by omega) HS.out).mono ?_
  rintro en w1 ⟨v, rfl, S1⟩
  rw [HSP.out] at S1
  obtain ⟨A, c, rfl, -, -⟩ := Sat.row_C flatS rfl S1
  have HS1 : Hid (Sat w0 w1 (rS (.slice A T.length c) T * (zs s (outsS l ((T.take 0).map (·.f0))) * R))) := Lib.hid S1
  clear S1 HS
  go_wp2_with fail
  go_loopw [19] (fun v19 wr => ∃ i : Nat, v19 = .int .i64 i ∧ i ≤ T.length ∧ Hid (Sat w0 wr (rS (.slice A T.length c) T * (zs s (outsS l ((T.take i).map (·.f0))) * R)))) (fun v19 _ => T.length - (RowKit.intOf v19).toNat)
  case atStart => exact ⟨0, rfl, by omega, HS1⟩
  case round =>
    clear HS1
    obtain ⟨i, rfl, hi, HSi⟩ := hrel
    by_cases hlt : i < T.length
    · obtain ⟨g, e1, x0, x1⟩ := HSi.out.rS_two hlt
      subst e1
      obtain ⟨x, hx⟩ : ∃ x, x = T[i] := ⟨_, rfl⟩
      rw [← hx] at x0 x1
      have HX : Hid (outsS l ((T.take (i + 1)).map (·.f0)) = outsS (outsS l ((T.take i).map (·.f0))) [x.f0]) := Lib.hid (by
        rw [List.take_add_one, List.getElem?_eq_getElem hlt, ← hx]
        unfold outsS
        rw [Option.toList_some, List.map_append, List.foldl_append]
        rfl)
      have HXM : Hid (∀ m ∈ [x.f0], m.size ≤ maxLen) := Lib.hid (fun m hm => by
        rw [List.mem_singleton] at hm
        rw [hm, hx]
        exact HTM.out _ (List.getElem_mem hlt))
      obtain ⟨xb, hxb⟩ : ∃ xb, xb = wr.heap.size := ⟨_, rfl⟩
      have SA := HSi.out.alloc (.cells #[.string x.f0, .int .i64 x.f1] 30)
      rw [← hxb] at SA
      have HSA := Lib.hid SA
      have HXB := Lib.hid hxb
      clear SA hxb HSi hx
      go_upto_region 7 with (fail)
      rw [← HXB.out]
      clear x0 x1
      refine gen_w HSA.out ?_
      clear HSA HXB
      intro wq SB
      obtain ⟨b0, b1, -⟩ := blk2 SB.blk
      have S2 : Sat w0 (wq.alloc (.cells #[.string x.f0] 9)) (rT (.slice (some ⟨wq.heap.size, 0, none⟩) [x.f0].length 1) [x.f0] * _) := Sat.row_new (e := 9) (sz := 1) (n := 1) SB rfl (by decide)
      have HS2 : Hid (Sat w0 (wq.alloc (.cells #[.string x.f0] 9)) (zs s (outsS l ((T.take i).map (·.f0))) * (rT (.slice (some ⟨wq.heap.size, 0, none⟩) [x.f0].length 1) [x.f0] * (rS (.slice (some ⟨g, 0, none⟩) T.length c) T * R)))) := Lib.hid ((S2.cong (B := pts xb (.cells #[.string x.f0, .int .i64 x.f1] 30 (0, 0)) * (zs s (outsS l ((T.take i).map (·.f0))) * (rT (.slice (some ⟨wq.heap.size, 0, none⟩) [x.f0].length 1) [x.f0] * (rS (.slice (some ⟨g, 0, none⟩) T.length c) T * R)))) (by ac_rfl)).drop1)
      clear SB S2
      go_wp2_with fail
      refine (zsDrop HXM.out (by simp) HS2.out).mono ?_
      rintro en w3 ⟨rfl, S3⟩
      rw [← HX.out] at S3
      have HS3 : Hid (Sat w0 w3 (rS (.slice (some ⟨g, 0, none⟩) T.length c) T * (zs s (outsS l ((T.take (i + 1)).map (·.f0))) * R))) := Lib.hid (S3.p2.drop1.p2)
      clear S3 HS2 b0 b1
      go_wp2_with fail
      go_roundw
      case rel => exact ⟨i + 1, by simp, by omega, HS3⟩
      case measure => simp [RowKit.intOf]; omega
    · have hi2 : i = T.length := by omega
      have HIE : Hid (T.take i = T) := Lib.hid (by rw [hi2, List.take_of_length_le (Nat.le_refl _)])
      rw [HIE.out, ← HPL.out] at HSi
      go_wp2_with fail
      go_ret
      exact ⟨_, rfl, HSi.out⟩
end Go.Sl
/-! ### ZsJ -/
namespace Go.Sl
open Go.RowKit Go.Proofs Go.Sl Go.Proofs.YteakblblpiihpaaW.PrintWords Go.Proofs.Yteakblblpiihpaa.PZs Go.Sl.DI64
set_option linter.unusedVariables false
set_option linter.unusedSimpArgs false
set_option maxRecDepth 100000

/-- A sorted set whose table is d. -/
def zsd (s t : Nat) (sd : Int) (d : DS) (l : List Sc) : HP := ex fun q : Nat × Int × SN × List SN × Lk => wh (ZOk l ∧ SkOk q.2.2.1 q.2.2.2.1 q.2.2.2.2 ∧ q.2.2.2.1.map SN.sc = l)
  (pts s (.cells #[pt t, pt q.1] 28 (0, 0)) * (tabD t sd d * skl q.1 q.2.1 q.2.2.1 q.2.2.2.1 q.2.2.2.2 q.2.2.2.1.length))
theorem Sat.zsd_of {w0 w : World} {s : Nat} {l : List Sc} {R : HP} (S : Sat w0 w (zs s l * R)) : ∃ t sd d, DS.Ok sd d ∧ (kvs d.nodes).Perm (prs l) ∧ Sat w0 w (zsd s t sd d l * R) := by
  obtain ⟨t, o, sd, sd2, hd, xs, L, h1, h2, h3, S1⟩ := S.zs_open
  obtain ⟨d, k1, k2, S2⟩ := Sat.dtb_open S1.p2
  exact ⟨t, sd, d, k1, k2, Sat.mk_ex1 (o, sd2, hd, xs, L) (Sat.mk_wh1 ⟨h1, h2, h3⟩ (S2.cong (by simp only; ac_rfl)))⟩
theorem Sat.zsd_open {w0 w : World} {s t : Nat} {sd : Int} {d : DS} {l : List Sc} {R : HP} (S : Sat w0 w (zsd s t sd d l * R)) : ∃ o sd2 hd xs L, ZOk l ∧ SkOk hd xs L ∧ xs.map SN.sc = l ∧ Sat w0 w (pts s (.cells #[pt t, pt o] 28 (0, 0)) * (tabD t sd d * (skl o sd2 hd xs L xs.length * R))) := by
  obtain ⟨⟨o, sd2, hd, xs, L⟩, S⟩ := S.ex1
  obtain ⟨⟨h1, h2, h3⟩, S⟩ := S.wh1
  exact ⟨o, sd2, hd, xs, L, h1, h2, h3, S.cong (by simp only; ac_rfl)⟩
theorem Sat.zsd_shut {w0 w : World} {s t o : Nat} {sd sd2 : Int} {d : DS} {hd : SN} {xs : List SN} {L : Lk} {l : List Sc} {R : HP} (h1 : ZOk l) (h2 : SkOk hd xs L) (h3 : xs.map SN.sc = l)
    (S : Sat w0 w (pts s (.cells #[pt t, pt o] 28 (0, 0)) * (tabD t sd d * (skl o sd2 hd xs L xs.length * R)))) : Sat w0 w (zsd s t sd d l * R) :=
  Sat.mk_ex1 (o, sd2, hd, xs, L) (Sat.mk_wh1 ⟨h1, h2, h3⟩ (S.cong (by simp only; ac_rfl)))
theorem Sat.zs_of_d {w0 w : World} {s t : Nat} {sd : Int} {d : DS} {l : List Sc} {R : HP} (k1 : DS.Ok sd d) (k2 : (kvs d.nodes).Perm (prs l)) (S : Sat w0 w (zsd s t sd d l * R)) : Sat w0 w (zs s l * R) := by
  obtain ⟨o, sd2, hd, xs, L, h1, h2, h3, S1⟩ := S.zsd_open
  exact Sat.zs_shut (t := t) (o := o) (sd := sd) (sd2 := sd2) h1 h2 h3 (Sat.dtb_shut k1 k2 S1.p2).p2
/-- Keys with their scores. -/
def scoredK (l : List Sc) (ks : List ByteArray) : List Sc := ks.map fun k => ⟨k, (findS l k).getD 0⟩
theorem getV_d {l : List Sc} {sd : Int} {d : DS} (k1 : DS.Ok sd d) (k2 : (kvs d.nodes).Perm (prs l)) (k : ByteArray) : getV (kvs d.nodes) k = scoreV l k := by
  rw [← getV_prs]
  unfold getV
  rw [lk_perm k2 (by rw [kvs_fst]; exact k1.nd)]
set_option maxHeartbeats 8000000 in
/-- 'Scan', from turn tt on. -/
theorem zsScan {w0 w : World} {s t tt : Nat} {sd : Int} {d : DS} {l : List Sc} {count : Nat} {R : HP} (k1 : DS.Ok sd d) (k2 : (kvs d.nodes).Perm (prs l)) (ht : tt < 2 ^ bitsD d) (hc1 : 1 ≤ count) (hc2 : count ≤ 1000) (S : Sat w0 w (zsd s t sd d l * R)) :
    Calls Try.prog 34 #[pt s, .int .u64 (rev (bitsD d) tt : Nat), .int .i64 count] w fun en w' => ∃ t2 L u, tt < t2 ∧ t2 ≤ 2 ^ bitsD d ∧ turnsK d t2 = turnsK d tt ++ L ∧ en = .returned (.tuple #[.int .u64 (rev (bitsD d) t2 : Nat), u]) ∧ Sat w0 w' (rS u (scoredK l L) * (zsd s t sd d l * R)) := by
  have HK1 := Lib.hid k1
  have HK2 := Lib.hid k2
  have HT := Lib.hid ht
  have HC1 := Lib.hid hc1
  have HC2 := Lib.hid hc2
  obtain ⟨o, sd2, hd, xs, Lk, h1, h2, h3, S1⟩ := S.zsd_open
  obtain ⟨c0, c1, -⟩ := blk2 S1.blk
  have H1 := Lib.hid h1
  have H2 := Lib.hid h2
  have H3 := Lib.hid h3
  have HS0 := Lib.hid (S.zs_of_d k1 k2)
  have HS1 := Lib.hid S1.p2
  have HGV : Hid (∀ k, getV (kvs d.nodes) k = scoreV l k) := Lib.hid (getV_d k1 k2)
  have HLEN : Hid (∀ t2 L, t2 ≤ 2 ^ bitsD d → turnsK d t2 = turnsK d tt ++ L → L.length ≤ 1000000) := Lib.hid (fun t2 L h e => by
    have q1 := turnsK_le k1 h
    rw [e, List.length_append] at q1
    have q2 := k2.length_eq
    have q3 := h1.big
    simp only [kvs, prs, List.length_map] at q2
    omega)
  clear S S1 k1 k2 ht hc1 hc2 h1 h2 h3
  go_enter Try.func34, Try.ntmps34
  go_wp2_with fail
  refine (zsReady HS0.out).mono ?_
  rintro en w' ⟨rfl, rfl⟩
  clear HS0
  go_wp2_with fail
  refine (tScan HK1.out HT.out HC1.out HC2.out HS1.out).mono ?_
  rintro en w2 ⟨t2, L, v, e1, e2, e3, rfl, S2⟩
  have hLb := HLEN.out t2 L e2 e3
  have hkey : ∀ k ∈ L, k.size ≤ maxLen := fun k hk => by
    have hm : k ∈ turnsK d (2 ^ bitsD d) := by
      obtain ⟨m, hm⟩ : ∃ m, 2 ^ bitsD d = t2 + m := ⟨2 ^ bitsD d - t2, by omega⟩
      have hk2 : k ∈ turnsK d t2 := by rw [e3]; exact List.mem_append_right _ hk
      rw [hm]
      clear hm
      induction m with
      | zero => exact hk2
      | succ m ih => rw [← Nat.add_assoc, turnsK_next]; exact List.mem_append_left _ ih
    have hm2 := (turns_all HK1.out).mem_iff.1 hm
    obtain ⟨x, hx, rfl⟩ := List.mem_map.1 hm2
    exact HK1.out.ks x hx
  have hv : ∃ A c, v = .slice A L.length c := by
    obtain ⟨_, h⟩ := S2.row_open
    rcases h with ⟨q1, q2, _⟩ | ⟨g', cap, cur, q1, _⟩
    · exact ⟨none, 0, by rw [q1, q2]⟩
    · exact ⟨_, cap, q1⟩
  obtain ⟨A, c, rfl⟩ := hv
  have HE := Lib.hid (And.intro e1 (And.intro e2 e3))
  have hLi : (L.length : Int) ≤ 1000000 := by omega
  have HKEY := Lib.hid hkey
  have HS2 : Hid (Sat w0 w2 (rS (.slice none 0 0) [] * (rK (.slice A L.length c) L * (tabD t sd d * (pts s (.cells #[pt t, pt o] 28 (0, 0)) * (skl o sd2 hd xs Lk xs.length * R)))))) := Lib.hid (S2.row_nil _ _)
  clear S2 HS1 c0 c1 e1 e2 e3 hLb hkey
  go_wp2_with fail
  go_loopw [10, 30] (fun v10 v30 wr => ∃ i : Nat, v30 = .int .i64 i ∧ i ≤ L.length ∧ Hid (Sat w0 wr (rS v10 (scoredK l (L.take i)) * (rK (.slice A L.length c) L * (tabD t sd d * (pts s (.cells #[pt t, pt o] 28 (0, 0)) * (skl o sd2 hd xs Lk xs.length * R))))))) (fun _ v30 _ => L.length - (RowKit.intOf v30).toNat)
  case atStart => exact ⟨0, rfl, by omega, HS2⟩
  case round =>
    clear HS2
    obtain ⟨i, rfl, hi, HSi⟩ := hrel
    by_cases hlt : i < L.length
    · obtain ⟨g, q1, x0⟩ := HSi.out.p2.row_cells i (.string L[i]) (by rw [List.getElem?_map, List.getElem?_eq_getElem hlt]; rfl)
      subst q1
      obtain ⟨c0, c1, -⟩ := blk2 HSi.out.p4.blk
      obtain ⟨k, hk⟩ : ∃ k, k = L[i] := ⟨_, rfl⟩
      rw [← hk] at x0
      have HX : Hid (scoredK l (L.take (i + 1)) = scoredK l (L.take i) ++ [⟨k, (findS l k).getD 0⟩]) := Lib.hid (by
        unfold scoredK
        rw [List.take_add_one, List.getElem?_eq_getElem hlt, Option.toList_some, List.map_append, ← hk]
        rfl)
      have HKS : Hid (k.size ≤ maxLen) := Lib.hid (by rw [hk]; exact HKEY.out _ (List.getElem_mem hlt))
      clear hk
      go_wp2_with fail
      refine (tGet HKS.out HK1.out HSi.out.p3).mono ?_
      rintro en w4 ⟨rfl, S4⟩
      rw [HGV.out]
      obtain ⟨sc, hsc⟩ : ∃ sc, sc = (findS l k).getD 0 := ⟨_, rfl⟩
      obtain ⟨bs, hbs⟩ : ∃ bs, bs = (findS l k).isSome := ⟨_, rfl⟩
      rw [show scoreV l k = .tuple #[.int .i64 sc, .bool bs] by rw [hsc, hbs]]
      rw [← hsc] at HX
      have S5 := (S4.p2).alloc (.cells #[.string k, .int .i64 sc] 30)
      obtain ⟨y0, y1, -⟩ := blk2 S5.blk
      obtain ⟨v', w', hr, S6⟩ := Sat.rS_append (x := ⟨k, sc⟩) (by unfold scoredK; rw [List.length_map, List.length_take]; omega) S5.p2 w4.heap.size 1 y0 y1
      rw [← HX.out] at S6
      have HS6 : Hid (Sat w0 w' (rS v' (scoredK l (L.take (i + 1))) * (rK (.slice (some ⟨g, 0, none⟩) L.length c) L * (tabD t sd d * (pts s (.cells #[pt t, pt o] 28 (0, 0)) * (skl o sd2 hd xs Lk xs.length * R)))))) := Lib.hid ((S6.p2.drop1).cong (by ac_rfl))
      clear S4 S5 S6 y0 y1 x0 hsc hbs
      go_upto_region 10 with (at_builtin; refine wpList_append_eq rfl _ _ _ _ rfl rfl rfl hr ?_)
      clear hr c0 c1 HSi
      go_wp2_with fail
      go_roundw
      case rel => exact ⟨i + 1, by simp, by omega, HS6⟩
      case measure => simp [RowKit.intOf]; omega
    · have hi2 : i = L.length := by omega
      have HIE : Hid (L.take i = L) := Lib.hid (by rw [hi2, List.take_of_length_le (Nat.le_refl _)])
      rw [HIE.out] at HSi
      go_wp2_with fail
      go_ret2
      exact ⟨t2, L, _, HE.out.1, HE.out.2.1, HE.out.2.2, rfl, by
        have h := (HSi.out.p2.drop1).p2
        exact (Sat.zsd_shut (s := s) (t := t) (R := rS _ (scoredK l L) * R) H1.out H2.out H3.out (h.cong (by ac_rfl))).cong (by ac_rfl)⟩
end Go.Sl
/-! ### ZsK -/
namespace Go.Sl
open Go.RowKit Go.Proofs Go.Sl Go.Proofs.YteakblblpiihpaaW.PrintWords Go.Proofs.Yteakblblpiihpaa.PZs Go.Sl.DI64
set_option linter.unusedVariables false
set_option linter.unusedSimpArgs false
set_option maxRecDepth 100000

theorem ord_ext : ∀ {a b : List Sc}, (a.Pairwise fun x y => ltS x y = true) → (b.Pairwise fun x y => ltS x y = true) → (∀ x, x ∈ a ↔ x ∈ b) → a = b
  | [], [], _, _, _ => rfl
  | [], y :: b, _, _, h => absurd ((h y).2 (by simp)) (by simp)
  | x :: a, [], _, _, h => absurd ((h x).1 (by simp)) (by simp)
  | x :: a, y :: b, ha, hb, h => by
    rw [List.pairwise_cons] at ha hb
    have irr : ∀ z : Sc, ltS z z ≠ true := fun z => by rw [ltS_irrefl]; decide
    have hxy : x = y := by
      rcases List.mem_cons.1 ((h x).1 (by simp)) with e | e
      · exact e
      · rcases List.mem_cons.1 ((h y).2 (by simp)) with e2 | e2
        · exact e2.symm
        · exact absurd (ltS_trans (hb.1 x e) (ha.1 y e2)) (irr y)
    subst hxy
    congr 1
    refine ord_ext ha.2 hb.2 fun z => ?_
    constructor
    · intro hz
      rcases List.mem_cons.1 ((h z).1 (by simp [hz])) with e | e
      · subst e; exact absurd (ha.1 z hz) (irr z)
      · exact e
    · intro hz
      rcases List.mem_cons.1 ((h z).2 (by simp [hz])) with e | e
      · subst e; exact absurd (hb.1 z hz) (irr z)
      · exact e
theorem puts_perm {l : List Sc} (hn : (l.map (·.f0)).Nodup) : ∀ i, i ≤ l.length → (putsS (l.take i)).Perm (l.take i) := by
  intro i
  induction i with
  | zero => intro _; exact List.Perm.refl _
  | succ i ih =>
    intro hi
    have h1 : i < l.length := by omega
    have hp := ih (by omega)
    rw [puts_take l h1]
    have hout : outS (putsS (l.take i)) l[i].f0 = putsS (l.take i) := by
      unfold outS
      rw [List.filter_eq_self]
      intro x hx
      have hx2 := hp.mem_iff.1 hx
      obtain ⟨j, hj, rfl⟩ := List.mem_iff_getElem.1 hx2
      rw [List.getElem_take]
      have hji : j < i := by rw [List.length_take] at hj; omega
      have : l[j].f0 ≠ l[i].f0 := fun e => by
        have := (List.getElem_inj (xs := l.map (·.f0)) (h₀ := by simpa using (by omega : j < l.length)) (h₁ := by simpa using h1) hn).1 (by simpa using e)
        omega
      simpa using this
    refine (put_perm _ _).trans ?_
    rw [hout, List.take_add_one, List.getElem?_eq_getElem h1, Option.toList_some]
    exact ((hp.cons _).trans (List.perm_append_comm (l₁ := [l[i]]) (l₂ := l.take i)))
/-- What was met, put together, is the set. -/
theorem puts_met {r : List Sc} (hr : ZOk r) (hb : r.length ≤ 100000) {ks : List ByteArray} (hp : ks.Perm (r.map (·.f0))) : putsS (scoredK r ks) = r := by
  have hk : (scoredK r ks).map (·.f0) = ks := by unfold scoredK; rw [List.map_map]; exact List.map_id _
  have hn : ((scoredK r ks).map (·.f0)).Nodup := by rw [hk]; exact hp.nodup_iff.2 hr.ks
  have hmem : ∀ x, x ∈ scoredK r ks ↔ x ∈ r := fun x => by
    unfold scoredK
    rw [List.mem_map]
    constructor
    · rintro ⟨k, hk, rfl⟩
      obtain ⟨y, hy, rfl⟩ := List.mem_map.1 (hp.mem_iff.1 hk)
      have := (findS_iff hr.ks y.f0 y.f1).2 hy
      rw [this]
      exact hy
    · intro hx
      refine ⟨x.f0, hp.mem_iff.2 (List.mem_map.2 ⟨x, hx, rfl⟩), ?_⟩
      have := (findS_iff hr.ks x.f0 x.f1).2 hx
      rw [this]
      rfl
  have hlen : (scoredK r ks).length = r.length := by
    unfold scoredK
    rw [List.length_map, hp.length_eq, List.length_map]
  have hpp := puts_perm hn (scoredK r ks).length (Nat.le_refl _)
  have hok := puts_ok (l := scoredK r ks) (fun x hx => hr.sz x ((hmem x).1 hx)) (by omega) (scoredK r ks).length (Nat.le_refl _)
  rw [List.take_length] at hpp hok
  exact ord_ext hok.1.ord hr.ord fun x => hpp.mem_iff.trans (hmem x)
end Go.Sl
/-! ### ZsN -/
namespace Go.Sl
open Go.RowKit Go.Proofs Go.Sl Go.Proofs.YteakblblpiihpaaW.PrintWords Go.Proofs.Yteakblblpiihpaa.PZs Go.Sl.DI64
set_option linter.unusedVariables false
set_option linter.unusedSimpArgs false
set_option maxRecDepth 100000

theorem nReady (w : World) : Calls Try.prog 37 #[.pointer none] w fun en w' => en = .returned (.bool false) ∧ w = w' := by
  go_enter Try.func37, Try.ntmps37
  go_wp2_with fail
  go_ret
  exact ⟨rfl, rfl⟩
theorem nLen (w : World) : Calls Try.prog 14 #[.pointer none] w fun en w' => en = .returned (.int .i64 0) ∧ w = w' := by
  go_enter Try.func14, Try.ntmps14
  go_wp2_with fail
  refine (nReady w).mono ?_
  rintro en w' ⟨rfl, rfl⟩
  go_wp2_with fail
  go_ret
  exact ⟨rfl, rfl⟩
theorem nScore (w : World) (m : ByteArray) : Calls Try.prog 10 #[.pointer none, .string m] w fun en w' => en = .returned (.tuple #[.int .i64 0, .bool false]) ∧ w = w' := by
  go_enter Try.func10, Try.ntmps10
  go_wp2_with fail
  refine (nLen w).mono ?_
  rintro en w' ⟨rfl, rfl⟩
  go_wp2_with fail
  go_ret2
  exact ⟨rfl, rfl⟩
theorem nPut (w : World) (m : ByteArray) (n : Int) : Calls Try.prog 9 #[.pointer none, .string m, .int .i64 n] w fun en w' => en = .returned (.bool false) ∧ w = w' := by
  go_enter Try.func9, Try.ntmps9
  go_wp2_with fail
  refine (nReady w).mono ?_
  rintro en w' ⟨rfl, rfl⟩
  go_wp2_with fail
  go_ret
  exact ⟨rfl, rfl⟩
theorem nAdd (w : World) (m : ByteArray) (n : Int) : Calls Try.prog 26 #[.pointer none, .string m, .int .i64 n] w fun en w' => en = .returned (.tuple #[.int .i64 0, .int .i64 8]) ∧ w = w' := by
  go_enter Try.func26, Try.ntmps26
  go_wp2_with fail
  refine (nReady w).mono ?_
  rintro en w' ⟨rfl, rfl⟩
  go_wp2_with fail
  go_ret2
  exact ⟨rfl, rfl⟩
theorem nScan (w : World) (c : Int) (n : Int) : Calls Try.prog 34 #[.pointer none, .int .u64 c, .int .i64 n] w fun en w' => en = .returned (.tuple #[.int .u64 0, .slice none 0 0]) ∧ w = w' := by
  go_enter Try.func34, Try.ntmps34
  go_wp2_with fail
  refine (nReady w).mono ?_
  rintro en w' ⟨rfl, rfl⟩
  go_wp2_with fail
  go_ret2
  exact ⟨rfl, rfl⟩
theorem nRank (w : World) (m : ByteArray) (b : Bool) : Calls Try.prog 12 #[.pointer none, .string m, .bool b] w fun en w' => en = .returned (.int .i64 (-1)) ∧ w = w' := by
  go_enter Try.func12, Try.ntmps12
  go_wp2_with fail
  refine (nScore w m).mono ?_
  rintro en w' ⟨rfl, rfl⟩
  go_wp2_with fail
  go_ret
  exact ⟨rfl, rfl⟩
theorem nCut (w : World) (a c : Int) (b : Bool) : Calls Try.prog 42 #[.pointer none, .int .i64 a, .int .i64 c, .bool b] w fun en w' => en = .returned (.slice none 0 0) ∧ w = w' := by
  go_enter Try.func42, Try.ntmps42
  go_wp2_with fail
  refine (nLen w).mono ?_
  rintro en w' ⟨rfl, rfl⟩
  go_wp2_with fail
  go_ret
  exact ⟨rfl, rfl⟩
theorem nAll (w : World) : Calls Try.prog 11 #[.pointer none] w fun en w' => en = .returned (.slice none 0 0) ∧ w = w' := by
  go_enter Try.func11, Try.ntmps11
  go_wp2_with fail
  refine (nLen w).mono ?_
  rintro en w' ⟨rfl, rfl⟩
  go_wp2_with fail
  refine (nCut w _ _ _).mono ?_
  rintro en w' ⟨rfl, rfl⟩
  go_wp2_with fail
  go_ret
  exact ⟨rfl, rfl⟩
theorem nSpan8 (w : World) : Calls Try.prog 19 #[.pointer none, .int .i64 0, .int .i64 8, .bool true] w fun en w' => en = .returned (.slice none 0 0) ∧ w = w' := by
  go_enter Try.func19, Try.ntmps19
  go_wp2_with fail
  refine (nLen w).mono ?_
  rintro en w' ⟨rfl, rfl⟩
  go_wp2_with fail
  go_ret
  exact ⟨rfl, rfl⟩
theorem nSpanA (w : World) : Calls Try.prog 19 #[.pointer none, .int .i64 0, .int .i64 (-1), .bool false] w fun en w' => en = .returned (.slice none 0 0) ∧ w = w' := by
  go_enter Try.func19, Try.ntmps19
  go_wp2_with fail
  refine (nLen w).mono ?_
  rintro en w' ⟨rfl, rfl⟩
  go_wp2_with fail
  go_ret
  exact ⟨rfl, rfl⟩
theorem nPop (w : World) : Calls Try.prog 30 #[.pointer none, .bool true, .int .i64 9] w fun en w' => en = .returned (.slice none 0 0) ∧ w = w' := by
  go_enter Try.func30, Try.ntmps30
  go_wp2_with fail
  refine (nSpan8 w).mono ?_
  rintro en w' ⟨rfl, rfl⟩
  go_wp2_with fail
  go_loopw [19] (fun v19 wr => v19 = .int .i64 0 ∧ wr = w) (fun _ _ => 0)
  case atStart => exact ⟨rfl, rfl⟩
  case round =>
    obtain ⟨rfl, rfl⟩ := hrel
    go_wp2_with fail
    go_ret
    exact ⟨rfl, rfl⟩
theorem nDrop {w0 w : World} {A : Option Addr} {c : Nat} {m : ByteArray} {R : HP} (S : Sat w0 w (rT (.slice A 1 c) [m] * R)) : Calls Try.prog 28 #[.pointer none, .slice A 1 c] w fun en w' => en = .returned (.int .i64 0) ∧ w = w' := by
  obtain ⟨g, e1, x0⟩ := S.row_cells 0 (.string m) rfl
  subst e1
  clear S
  go_enter Try.func28, Try.ntmps28
  go_wp2_with fail
  go_loopw [5, 12] (fun v5 v12 wr => v5 = .int .i64 0 ∧ wr = w ∧ ∃ i : Nat, i ≤ 1 ∧ v12 = .int .i64 i) (fun _ v12 _ => 1 - (RowKit.intOf v12).toNat)
  case atStart => exact ⟨rfl, rfl, 0, by omega, rfl⟩
  case round =>
    obtain ⟨rfl, rfl, i, hi, rfl⟩ := hrel
    by_cases h0 : i = 0
    · subst h0
      go_wp2_with fail
      refine (nScore _ m).mono ?_
      rintro en w' ⟨rfl, rfl⟩
      go_wp2_with fail
      go_roundw
      case rel => exact ⟨by simp, by simp, 1, by omega, by simp⟩
      case measure => simp [RowKit.intOf]
    · have h1 : i = 1 := by omega
      subst h1
      go_wp2_with fail
      go_ret
      exact ⟨rfl, rfl⟩
theorem nRanks {w0 w : World} {li ls hi hs : Int} {lo ho : Bool} {R : HP} (S : Sat w0 w R) : Calls Try.prog 48 #[.pointer none, bndV li ls lo, bndV hi hs ho] w fun en w' => en = .returned (.tuple #[.int .i64 0, .int .i64 0]) ∧ Sat w0 w' R := by
  have HS := Lib.hid ((S.alloc (bndO li ls lo)).alloc (bndO hi hs ho)).drop1.drop1
  clear S
  go_enter Try.func48, Try.ntmps48
  go_wp2_with fail
  refine (nLen _).mono ?_
  rintro en w' ⟨rfl, rfl⟩
  go_wp2_with fail
  go_ret2
  exact ⟨rfl, HS.out⟩
theorem nCount {w0 w : World} {li ls hi hs : Int} {lo ho : Bool} {R : HP} (S : Sat w0 w R) : Calls Try.prog 22 #[.pointer none, bndV li ls lo, bndV hi hs ho] w fun en w' => en = .returned (.int .i64 0) ∧ Sat w0 w' R := by
  obtain ⟨b1, hb1⟩ : ∃ b1, b1 = w.heap.size := ⟨_, rfl⟩
  have S0 := (S.alloc (bndO li ls lo)).alloc (bndO hi hs ho)
  rw [World.size_alloc, ← hb1] at S0
  have HS := Lib.hid S0
  have HB1 := Lib.hid hb1
  clear S S0 hb1
  go_enter Try.func22, Try.ntmps22
  go_upto_region 1 with (fail)
  rw [← HB1.out]
  refine gen_w HS.out ?_
  clear HS HB1
  intro w1 S1
  obtain ⟨p0, p1, p2, -⟩ := blk3 S1.p2.blk
  obtain ⟨q0, q1, q2, -⟩ := blk3 S1.blk
  have HS := Lib.hid S1.drop1.drop1
  clear S1
  go_wp2_with fail
  refine (nRanks HS.out).mono ?_
  rintro en w2 ⟨rfl, S2⟩
  have HS2 := Lib.hid S2
  clear S2 HS p0 p1 p2 q0 q1 q2
  go_wp2_with fail
  go_ret
  exact ⟨rfl, HS2.out⟩
end Go.Sl
/-! ### LawZsC -/
namespace Go.Sl
open Go.RowKit Go.Proofs Go.Proofs.YteakblblpiihpaaW.PrintWords Go.Proofs.Yteakblblpiihpaa.PZs Go.Sl.DI64
set_option linter.unusedVariables false
set_option linter.unusedSimpArgs false
set_option maxRecDepth 100000

theorem cnt_nat (n : Int) : ∃ c : Nat, 1 ≤ c ∧ c ≤ 30 ∧ wrap64 (wrap64 ((IntKind.u64.wrap n).tmod 30) + 1) = (c : Int) := by
  have h1 : IntKind.u64.wrap n = n % 18446744073709551616 := by simp [IntKind.wrap, IntKind.signed, IntKind.bits]
  have h2 : 0 ≤ n % 18446744073709551616 := Int.emod_nonneg _ (by decide)
  rw [h1, Int.tmod_eq_emod_of_nonneg h2]
  have h3 := Int.emod_nonneg (n % 18446744073709551616) (b := 30) (by decide)
  have h4 := Int.emod_lt_of_pos (n % 18446744073709551616) (b := 30) (by decide)
  generalize n % 18446744073709551616 % 30 = z at h3 h4
  exact ⟨(z + 1).toNat, by omega, by omega, by unfold wrap64; omega⟩
theorem val_field2 (k : Int) (z : Value) (w : World) : (Instr.field 45 (valV k z) 4).run Try.prog w = .ok z w := by kernel_rfl
set_option maxHeartbeats 32000000 in
theorem scansZs {w : World} {seed cnt : Int} {A0 : Option Addr} {c0 : Nat} {l : List Sc} (hr0 : Kd.C k30 w A0 l.length l) (hc0 : l.length ≤ c0) :
    Calls Try.prog 6 #[.int .u64 seed, .slice A0 l.length c0, .int .i64 cnt] w fun en w' => en = .returned (.bool true) ∧ Below w.heap.size w w' := by
  have HR := Lib.hid hr0
  have HC := Lib.hid hc0
  have hm1 : l.length ≤ 9223372036854775807 := hr0.2.1
  clear hr0 hc0
  by_cases hb1 : 200 < l.length
  · have hd : decide ((200 : Int) < (l.length : Int)) = true := by simp; omega
    clear hb1
    go_enter Try.func6, Try.ntmps6
    go_wp2_with fail
    refine (aliveZs (Sat.start w)).mono ?_
    rintro en w5 ⟨rfl, S5⟩
    have HS5 := Lib.hid S5.old1
    clear S5
    go_wp2_with fail
    go_ret
    exact ⟨rfl, HS5.out⟩
  have hd : decide ((200 : Int) < (l.length : Int)) = false := by simp; omega
  have hl200 : (l.length : Int) ≤ 200 := by omega
  clear hb1 hm1
  go_enter Try.func6, Try.ntmps6
  go_wp2_with fail
  refine (zsNew (seed := seed) (Sat.start w)).mono ?_
  rintro en w1 ⟨b, rfl, S1⟩
  have HS : Hid (Sat w w1 (zs b (putsS (l.take 0)) * old w)) := Lib.hid S1
  clear S1
  go_wp2_with fail
  go_loopw [27] (fun v27 wr => ∃ i : Nat, v27 = .int .i64 i ∧ i ≤ l.length ∧ Hid (∀ j (h : j < l.length), j < i → l[j].f0.size ≤ 200) ∧ Hid (Sat w wr (zs b (putsS (l.take i)) * old w))) (fun v27 _ => l.length - (RowKit.intOf v27).toNat)
  case atStart => exact ⟨0, rfl, by omega, Lib.hid (fun j _ h => absurd h (by omega)), HS⟩
  case round =>
    clear HS
    obtain ⟨i, rfl, hi, HZ, HSi⟩ := hrel
    by_cases hlt : i < l.length
    · obtain ⟨ad, e1, hx0, hx1⟩ := argZ HR.out HSi.out.drop1.old1 hlt
      subst e1
      obtain ⟨xx, hxx⟩ : ∃ xx, xx = l[i] := ⟨_, rfl⟩
      rw [← hxx] at hx0 hx1
      obtain ⟨ky, sc⟩ := xx
      simp only at hx0 hx1
      obtain ⟨ob, hob⟩ : ∃ ob, ob = wr.heap.size := ⟨_, rfl⟩
      have SA := HSi.out.alloc (.cells #[.string ky, .int .i64 sc] 30)
      rw [← hob] at SA
      have HSA := Lib.hid SA
      have HOB := Lib.hid hob
      have HXX := Lib.hid hxx
      clear SA hob HSi hxx
      go_upto_region 7 with (fail)
      rw [← HOB.out]
      clear hx0 hx1
      refine gen_w HSA.out ?_
      clear HSA HOB
      intro wq SB
      obtain ⟨b0, b1, -⟩ := blk2 SB.blk
      have HSB := Lib.hid SB.p2
      clear SB
      by_cases hfar : 200 < ky.size
      · have hfd : decide ((200 : Int) < (ky.size : Int)) = true := by simp; omega
        clear hfar
        go_wp2_with fail
        refine (aliveZs HSB.out).mono ?_
        rintro en w5 ⟨rfl, S5⟩
        have HS5 := Lib.hid S5.drop1.drop1.old1
        clear S5 HSB b0 b1
        go_wp2_with fail
        go_ret
        exact ⟨rfl, HS5.out⟩
      · have hfd : decide ((200 : Int) < (ky.size : Int)) = false := by simp; omega
        have HK := Lib.hid (show ky.size ≤ 200 by omega)
        have HZ2 : Hid (∀ j (h : j < l.length), j < i + 1 → l[j].f0.size ≤ 200) := Lib.hid (fun j h hj => by
          by_cases e : j = i
          · subst e; rw [← HXX.out]; exact HK.out
          · exact HZ.out j h (by omega))
        have HT : Hid (putsS (l.take (i + 1)) = putS (putsS (l.take i)) ⟨ky, sc⟩) := Lib.hid (by rw [puts_take l hlt, ← HXX.out])
        have HLT : Hid ((putsS (l.take i)).length < 1000000) := Lib.hid (by
          have hsz : ∀ x ∈ l.take i, x.f0.size ≤ maxLen := fun x hx => by
            obtain ⟨j, hj, rfl⟩ := List.mem_iff_getElem.1 hx
            rw [List.getElem_take]
            have hj' : j < i := by simp at hj; omega
            exact Nat.le_trans (HZ.out j (by omega) hj') (by decide)
          have hti : (l.take i).length = i := by rw [List.length_take]; omega
          have := puts_ok hsz (by omega) i (by omega)
          rw [List.take_take, Nat.min_self] at this
          have := this.2
          omega)
        have HML : Hid (ky.size ≤ maxLen) := Lib.hid (Nat.le_trans HK.out (by decide))
        clear hfar
        go_wp2_with fail
        refine (zsPut HML.out HLT.out HSB.out).mono ?_
        rintro en w2 ⟨rfl, S2⟩
        rw [← HT.out] at S2
        have HS3 : Hid (Sat w w2 (zs b (putsS (l.take (i + 1))) * old w)) := Lib.hid (S2.p2.drop1)
        clear b0 b1 S2 HSB
        go_wp2_with fail
        go_roundw
        case rel => exact ⟨i + 1, by simp, by omega, HZ2, HS3⟩
        case measure => simp [RowKit.intOf]; omega
    · have hi2 : i = l.length := by omega
      have HIE : Hid (l.take i = l) := Lib.hid (by rw [hi2, List.take_of_length_le (Nat.le_refl _)])
      subst hi2
      have HSZ : Hid (∀ x ∈ l, x.f0.size ≤ maxLen) := Lib.hid (fun x hx => by
        obtain ⟨j, hj, rfl⟩ := List.mem_iff_getElem.1 hx
        exact Nat.le_trans (HZ.out j hj (by omega)) (by decide))
      have HLB : Hid (l.length ≤ 100000) := Lib.hid (by omega)
      rw [HIE.out] at HSi
      obtain ⟨r, hr⟩ : ∃ r, r = putsS l := ⟨_, rfl⟩
      rw [← hr] at HSi
      have HRL : Hid (r.length ≤ 100000) := Lib.hid (by
        have := puts_ok HSZ.out HLB.out l.length (Nat.le_refl _)
        rw [List.take_length, ← hr] at this
        have := this.2
        omega)
      obtain ⟨tb, sd, d, k1, k2, SD⟩ := HSi.out.zsd_of
      have HK1 := Lib.hid k1
      have HK2 := Lib.hid k2
      have HSD := Lib.hid SD
      have HRZ := Lib.hid HSi.out.zs_ok
      clear HSi SD k1 k2 hr HZ hi
      go_upto_region 12 with (fail)
      obtain ⟨c, hc1, hc2, hce⟩ := cnt_nat cnt
      rw [hce]
      have HC1 := Lib.hid hc1
      have HC2 := Lib.hid hc2
      obtain ⟨b16, hb16⟩ : ∃ b16, b16 = bitsD d := ⟨_, rfl⟩
      have HB16 : Hid (b16 ≤ 16) := Lib.hid (by rw [hb16]; exact bitsD_le HK1.out)
      have HBD := Lib.hid hb16
      have HS2 : Hid (Sat w wr (rS (.slice none 0 0) [] * (zsd b tb sd d r * old w))) := Lib.hid (HSD.out.row_nil _ _)
      clear hce hc1 hc2 hb16 HSD
      go_wp2_with fail
      go_loopw [10, 11, 48] (fun v10 v11 v48 wr => ∃ (i tt : Nat) (L : List ByteArray) (A : Option Addr) (c8 : Nat), v48 = .int .i64 i ∧ v11 = .int .u64 (rev b16 tt : Nat) ∧ v10 = .slice A (scoredK r L).length c8 ∧ i ≤ tt ∧ Hid (tt < 2 ^ b16) ∧ Hid (turnsK d tt = L) ∧ Hid (Sat w wr (rS (.slice A (scoredK r L).length c8) (scoredK r L) * (zsd b tb sd d r * old w)))) (fun _ _ v48 _ => 100000 - (RowKit.intOf v48).toNat)
      case atStart => exact ⟨0, 0, [], none, 0, rfl, by rw [rev_zero]; rfl, rfl, by omega, Lib.hid (Nat.two_pow_pos _), Lib.hid rfl, HS2⟩
      case round =>
        clear HS2
        obtain ⟨i2, tt, L, A, c8, rfl, rfl, rfl, hit, HTT, HL, HSi⟩ := hrel
        have hp16 : 2 ^ b16 ≤ 65536 := Nat.pow_le_pow_right (n := 2) (by decide) HB16.out
        have hlt2 : (i2 : Int) < 100000 := by have := HTT.out; omega
        have hlt3 : i2 < 100000 := by have := HTT.out; omega
        clear hp16
        have hcall : Calls Try.prog 34 #[pt b, .int .u64 (rev b16 tt : Nat), .int .i64 c] wr fun en w' => ∃ t2 L2 u, tt < t2 ∧ t2 ≤ 2 ^ b16 ∧ turnsK d t2 = turnsK d tt ++ L2 ∧ en = .returned (.tuple #[.int .u64 (rev b16 t2 : Nat), u]) ∧ Sat w w' (rS u (scoredK r L2) * (zsd b tb sd d r * (rS (.slice A (scoredK r L).length c8) (scoredK r L) * old w))) := by
          have h := zsScan (R := rS (.slice A (scoredK r L).length c8) (scoredK r L) * old w) HK1.out HK2.out (tt := tt) (count := c) (by rw [← HBD.out]; exact HTT.out) HC1.out (Nat.le_trans HC2.out (by decide)) HSi.out.p2
          rw [← HBD.out] at h
          exact h
        go_wp2_with fail
        refine hcall.mono ?_
        rintro en w2 ⟨t2, L2, u, e1, e2, e3, rfl, S2⟩
        clear hcall
        obtain ⟨Au, cu, rfl, -, -⟩ := Sat.row_C flatS rfl S2
        have hNX : turnsK d t2 = L ++ L2 := by rw [e3, HL.out]
        have hsc : scoredK r (L ++ L2) = scoredK r L ++ scoredK r L2 := by unfold scoredK; rw [List.map_append]
        have hlen : (scoredK r L).length + (scoredK r L2).length ≤ 1000000 := by
          have h1 := turnsK_le HK1.out (t := t2) (by rw [← HBD.out]; exact e2)
          have h2 := HK2.out.length_eq
          have h3 := HRL.out
          rw [hNX, List.length_append] at h1
          simp only [kvs, prs, List.length_map] at h2
          unfold scoredK
          rw [List.length_map, List.length_map]
          omega
        have S3 : Sat w w2 (rS (.slice A (scoredK r L).length c8) (scoredK r L) * (rS (.slice Au (scoredK r L2).length cu) (scoredK r L2) * (zsd b tb sd d r * old w))) := S2.cong (by ac_rfl)
        obtain ⟨v3, w3, hr3, S4⟩ := sc_app (i := 0) (m := (scoredK r L2).length) (A' := Au) (c' := cu) S3 (by omega) hlen (fun h => by
          obtain ⟨g, e⟩ := rS_at S3.p2 h
          exact ⟨g, e, by rw [e]⟩)
        rw [List.drop_zero, List.take_length, ← hsc] at S4
        obtain ⟨A5, c5, rfl, -, -⟩ := Sat.row_C flatS rfl S4
        have HS5 : Hid (Sat w w3 (rS (.slice A5 (scoredK r (L ++ L2)).length c5) (scoredK r (L ++ L2)) * (zsd b tb sd d r * old w))) := Lib.hid (S4.p2.drop1)
        obtain ⟨M, hM⟩ : ∃ M, M = L ++ L2 := ⟨_, rfl⟩
        rw [← hM] at HS5 hNX hr3
        have HNX := Lib.hid hNX
        have HE1 := Lib.hid e1
        have HE2 := Lib.hid e2
        clear S2 S3 S4 hNX hsc hlen hM e1 e2 e3 HSi
        go_upto_region 18 with (at_builtin; refine wpList_append_eq rfl _ _ _ _ rfl rfl rfl hr3 ?_)
        clear hr3
        generalize hzz : rev b16 t2 = z
        have HZZ : Hid (rev b16 t2 = z) := Lib.hid hzz
        clear hzz
        by_cases hend : t2 = 2 ^ b16
        · have HZ : Hid (z = 0) := Lib.hid (by rw [← HZZ.out, hend]; exact rev_end b16)
          have HEND := Lib.hid hend
          clear hend hlt3
          have HPM : Hid (M.Perm (r.map (·.f0))) := Lib.hid (by
            have h3 := HK2.out.map (·.1)
            simp only [kvs, prs, List.map_map] at h3
            have h4 : M = (List.range (2 ^ bitsD d)).flatMap fun t => turnK d (rev (bitsD d) t) := by rw [← HNX.out, HEND.out, HBD.out]; rfl
            rw [h4]
            exact (turns_all HK1.out).trans h3)
          have HS6 := Lib.hid (Sat.zs_of_d HK1.out HK2.out (HS5.out.cong (by ac_rfl : _ = zsd b tb sd d r * (rS (.slice A5 (scoredK r M).length c5) (scoredK r M) * old w))))
          have e0 : z = 0 := HZ.out
          subst e0
          clear HZ
          go_wp2_with fail
          obtain ⟨X, hX⟩ : ∃ X, X = scoredK r M := ⟨_, rfl⟩
          have HXL : Hid (X.length = r.length) := Lib.hid (by rw [hX]; unfold scoredK; rw [List.length_map, HPM.out.length_eq, List.length_map])
          have HXP : Hid (putsS X = r) := Lib.hid (by rw [hX]; exact puts_met HRZ.out HRL.out HPM.out)
          have HXS : Hid (∀ x ∈ X, x.f0.size ≤ maxLen) := Lib.hid (fun x hx => by
            rw [hX] at hx
            unfold scoredK at hx
            obtain ⟨k, hk, rfl⟩ := List.mem_map.1 hx
            obtain ⟨y, hy, rfl⟩ := List.mem_map.1 (HPM.out.mem_iff.1 hk)
            exact HRZ.out.sz y hy)
          have HXB : Hid (X.length ≤ 100000) := Lib.hid (by rw [HXL.out]; exact HRL.out)
          rw [← hX] at HS6 HS5 ⊢
          clear hX HS5
          refine (rZSet (fun Z w' S => Sat.row_C_at flatS rfl (S.cong (by ac_rfl : _ = rS (.slice A5 X.length c5) X * (Z * (zs b r * old w)))) ) HXS.out HXB.out HS6.out).mono ?_
          rintro en w4 ⟨kk, z4, rfl, S4⟩
          rw [HXP.out] at S4
          obtain ⟨Az, cz, rfl, hcz, -⟩ := Sat.row_C flatS rfl S4
          obtain ⟨v70, hv70⟩ : ∃ v70, v70 = Value.slice Az r.length cz := ⟨_, rfl⟩
          have HV70 := Lib.hid hv70
          rw [← hv70] at S4
          have HS7 := Lib.hid S4
          clear S4 HS6 hcz hv70
          have hvf := val_field2 kk (.slice Az r.length cz) w4
          go_wp2_with fail
          refine (zsAll HS7.out.p2).mono ?_
          rintro en w5 ⟨va, rfl, SS⟩
          have HS8 : Hid (Sat w w5 (rS v70 r * (rS va r * (zs b r * (rS (.slice A5 X.length c5) X * old w))))) := Lib.hid (SS.cong (by ac_rfl))
          clear SS HS7 hvf
          go_wp2_with fail
          rw [← HV70.out]
          refine (zSame (Nat.le_trans HRL.out (by decide)) HS8.out).mono ?_
          rintro en w6 ⟨rfl, SS⟩
          have HS9 : Hid (Sat w w6 (zs b r * (rS (.slice A5 X.length c5) X * old w))) := Lib.hid SS.drop1.drop1
          clear SS HS8 HV70
          go_wp2_with fail
          refine (zsLen HS9.out).mono ?_
          rintro en w7 ⟨rfl, rfl⟩
          rw [HXL.out]
          clear hl200
          generalize hrn : r.length = rn
          clear hrn
          go_wp2_with fail
          refine (nScan _ _ _).mono ?_
          rintro en w8 ⟨rfl, rfl⟩
          go_wp2_with (first
            | (refine (nAdd _ _ _).mono ?_; rintro en wz ⟨rfl, rfl⟩; go_simp)
            | (refine (nPut _ _ _).mono ?_; rintro en wz ⟨rfl, rfl⟩; go_simp)
            | (refine (nLen _).mono ?_; rintro en wz ⟨rfl, rfl⟩; go_simp)
            | (refine (nRank _ _ _).mono ?_; rintro en wz ⟨rfl, rfl⟩; go_simp)
            | (refine (nAll _).mono ?_; rintro en wz ⟨rfl, rfl⟩; go_simp)
            | (refine (nPop _).mono ?_; rintro en wz ⟨rfl, rfl⟩; go_simp)
            | (refine (nSpanA _).mono ?_; rintro en wz ⟨rfl, rfl⟩; go_simp))
          obtain ⟨T1⟩ : Nonempty (Hid (Sat w (w6.alloc (.cells #[.string ⟨#[97]⟩] 9)) (rT (.slice (some ⟨w6.heap.size, 0, none⟩) [(⟨#[97]⟩ : ByteArray)].length 1) [(⟨#[97]⟩ : ByteArray)] * (zs b r * (rS (.slice A5 X.length c5) X * old w))))) := ⟨Lib.hid (Sat.row_new (e := 9) (sz := 1) (n := 1) HS9.out rfl (by decide))⟩
          refine (nDrop T1.out).mono ?_
          rintro en w9 ⟨rfl, rfl⟩
          generalize hw9 : w6.alloc (.cells #[.string ⟨#[97]⟩] 9) = w9 at T1 ⊢
          have HS10 : Hid (Sat w w9 (zs b r * (rS (.slice A5 X.length c5) X * old w))) := Lib.hid T1.out.drop1
          clear T1 HS9 hw9
          go_wp2_with (first
            | (refine (nAdd _ _ _).mono ?_; rintro en wz ⟨rfl, rfl⟩; go_simp)
            | (refine (nPut _ _ _).mono ?_; rintro en wz ⟨rfl, rfl⟩; go_simp)
            | (refine (nLen _).mono ?_; rintro en wz ⟨rfl, rfl⟩; go_simp)
            | (refine (nRank _ _ _).mono ?_; rintro en wz ⟨rfl, rfl⟩; go_simp)
            | (refine (nAll _).mono ?_; rintro en wz ⟨rfl, rfl⟩; go_simp)
            | (refine (nPop _).mono ?_; rintro en wz ⟨rfl, rfl⟩; go_simp)
            | (refine (nSpanA _).mono ?_; rintro en wz ⟨rfl, rfl⟩; go_simp))
          refine (nCount HS10.out).mono ?_
          rintro en w11 ⟨rfl, S11⟩
          have HS11 := Lib.hid S11
          clear S11 HS10
          go_wp2_with fail
          refine (aliveZs HS11.out).mono ?_
          rintro en w12 ⟨rfl, S12⟩
          have HS12 := Lib.hid S12.drop1.drop1.old1
          clear S12 HS11
          go_wp2_with fail
          go_ret
          exact ⟨rfl, HS12.out⟩
        · have hz : (((z : Nat) : Int) == 0) = false := by
            rw [beq_eq_false_iff_ne]
            have := rev_pos (b := b16) (t := t2) (by have := HE2.out; omega) (by have := HE1.out; omega)
            have := HZZ.out
            omega
          have HT2 : Hid (t2 < 2 ^ b16) := Lib.hid (by have := HE2.out; omega)
          clear hend
          go_wp2_with fail
          go_roundw
          case rel => exact ⟨i2 + 1, t2, M, A5, c5, by simp, by rw [HZZ.out], rfl, by have := HE1.out; omega, HT2, HNX, HS5⟩
          case measure => simp [RowKit.intOf]; omega
end Go.Sl
/-! ### LawZsCW -/
namespace Go.Sl
open Go.RowKit Go.Proofs Go.Proofs.YteakblblpiihpaaW.PrintWords Go.Proofs.Yteakblblpiihpaa.PZs
theorem scansZsWalk {w : World} (seed : Int) (_ : (Lit.int .u64 seed).wf = true) {A0 : Option Addr} {c0 : Nat} {l : List Sc} (hC : Kd.C k30 w A0 l.length l) (hc : l.length ≤ c0) (_ : ∀ x ∈ l, x.f0.size ≤ maxLen ∧ (Lit.int .i64 x.f1).wf = true)
    (cnt : Int) (_ : (Lit.int .i64 cnt).wf = true) :
    Calls Try.prog 6 #[.int .u64 seed, .slice A0 l.length c0, .int .i64 cnt] w fun en w' => en = .returned (.bool true) ∧ Below w.heap.size w w' :=
  scansZs hC hc
end Go.Sl
/-! ### RowZsetScans -/
namespace Go.Proofs.Yteakblblpiihpaa.zsetScans
open Go.ChangeShapes Go.WideShapes Go.ChangeAt Go.RowKit Go.Sl Go.Proofs.YteakblblpiihpaaW.PrintWords
open Go.ChangeMaps (open_string shut_string)
set_option linter.unusedVariables false
theorem own : ownKnob Try.prog.godebug = none := by kernel_rfl
theorem laidOut : laidOutB Try.prog = true := by kernel_rfl
set_option maxRecDepth 100000 in
theorem lifted (os : Os) (started : os.Started) (H : Type) (enc : TypeId × Value → H) :
    ReturnsInHanded {} Try.checked os 6 .any (Rows.zsetScansSpec.pre6 enc Try.prog Try.f6 Rows.zsetScansRow.domain false) (Rows.zsetScansSpec.post enc Try.prog Try.f6 false true false false) := by
  refine returnsInHanded_of_change_sized (C := Try.checked) own started (by kernel_rfl) Try.func6
    (ChangeSpec.witness6 (enc := enc) (C := Try.checked) false ⟨#[], #[.int .u64 0, .slice none 0 0, .int .i64 0], []⟩ 8 (by kernel_rfl) (by kernel_rfl) (by kernel_rfl) (by kernel_rfl)) ?_
  intro W base args ds gs before hval0 hW hcnd hsz0 _
  have hval : ∀ (j : Nat) t v, Try.f6.params[j]? = some t → args[j]? = some v → Value.okWide Try.prog W .any base t v := hval0
  have hW' := hW
  obtain ⟨p, q, hA0, hV, rfl, hfz, hnd⟩ := hW
  have hA : DataW.TrodAll enc Try.prog W 0 (fun _ => true) true Try.f6.params.toList args.toList ds p := hA0
  rw [Try.params6] at hA hval
  obtain ⟨v0, vs0, d0, ds0, p0, q0, hargs, rfl, rfl, h0, r0⟩ := trodAll_cons hA
  obtain ⟨v1, vs1, d1, ds1, p1, q1, rfl, rfl, rfl, h1, r1⟩ := trodAll_cons r0
  obtain ⟨v2, vs2, d2, ds2, p2, q2, rfl, rfl, rfl, h2, r2⟩ := trodAll_cons r1
  obtain ⟨rfl, rfl, rfl⟩ := trodAll_nil r2
  obtain rfl : args = #[v0, v1, v2] := by cases args; simp_all
  obtain ⟨rfl, rfl⟩ := trodVars_none hV
  obtain ⟨a0, rfl, rfl, rfl, w0⟩ := open_int Try.underlying39 (hval 0 39 v0 rfl rfl) h0
  obtain ⟨a1, len1, cap1, rfl⟩ := okWide_slice Try.underlying22 (hval 1 22 v1 rfl rfl)
  have k1 := h1
  have lt1 : ∀ x ∈ p1, x.block < W.heap.size := by obtain ⟨m, hm⟩ := k1; exact DataW.trod_lt m _ _ _ hm
  obtain ⟨l1, rfl, hc1, hC1, hk1⟩ := (opensScs).arg h1
  obtain ⟨a2, rfl, rfl, rfl, w2⟩ := open_int Try.underlying3 (hval 2 3 v2 rfl rfl) h2
  clear hA0 hval0 hsz0
  refine (Go.Sl.scansZsWalk a0 w0 hC1 hc1 hk1 a2 w2).mono fun e W' ⟨he, bel⟩ => ?_
  subst he
  exact ⟨_, rfl, _, _, _, [], _, [], hW', trodAll_mk1 (shut_bool Try.underlying4 _), (trodAll_cons_mk (shut_int Try.underlying39 w0) (trodAll_cons_mk (Below.trod laidOut (by kernel_rfl) (of_decide_eq_true (by kernel_rfl)) k1 bel lt1) (trodAll_cons_mk (shut_int Try.underlying3 w2) trodAll_mk0))), rfl, bel.frame _, fun h => by cases h⟩
theorem over : Rows.zsetScansRow.holds Try.pinned (OpenSpec.ofChange Rows.zsetScansSpec) :=
  OpenClaim.holds_of_wide 6 Try.f6 rfl rfl rfl rfl rfl rfl rfl ⟨rfl, rfl, rfl, rfl, rfl⟩ rfl rfl rfl rfl rfl (by kernel_rfl) Try.func6 (by kernel_rfl)
    (of_decide_eq_true (by kernel_rfl)) (by unfold Func.isWrapper; first | (rw [if_pos (by decide +kernel)]; kernel_rfl) | (rw [if_neg (by decide +kernel)]; exact ⟨rfl, rfl⟩))
    (fun os started H enc _ => lifted os started H enc)
end Go.Proofs.Yteakblblpiihpaa.zsetScans
namespace Go.Proofs.Yteakblblpiihpaa
theorem zsetScans_holds : Rows.ZsetScansSaid := zsetScans.over
#print axioms zsetScans_holds
end Go.Proofs.Yteakblblpiihpaa
