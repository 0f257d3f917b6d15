/-
  'mewslaw12.OrderPlays', walked.
-/
import Derived.Test.YtddkongfhffajaaLawOrdW
namespace Go.Sl
open Go.RowKit Go.Proofs Go.Proofs.YtddkongfhffajaaW.PrintWords Go.Proofs.Ytddkongfhffajaa.POrderPlays
set_option linter.unusedVariables false
set_option maxRecDepth 100000

/-- What one call leaves. -/
def ostep (l : List ByteArray) (x : S29) : List ByteArray := if x.f0 = true then dropK l x.f1 else dropK l x.f1 ++ [x.f1]
def ost (l : List S29) (k : Nat) : List ByteArray := (l.take k).foldl ostep []
theorem ost_succ (l : List S29) (k : Nat) (h : k < l.length) : ost l (k + 1) = ostep (ost l k) l[k] := by
  unfold ost
  rw [List.take_succ_eq_append_getElem h, List.foldl_append]
  rfl
theorem ost_length (l : List S29) : ∀ k, (ost l k).length ≤ k
  | 0 => by simp [ost]
  | k + 1 => by
    by_cases h : k < l.length
    · rw [ost_succ l k h]
      have := ost_length l k
      unfold ostep
      have h2 := dropK_length (ost l k) l[k].f1
      split
      · omega
      · simp; omega
    · have : ost l (k + 1) = ost l k := by unfold ost; rw [List.take_of_length_le (by omega), List.take_of_length_le (by omega)]
      rw [this]
      have := ost_length l k
      omega

set_option maxHeartbeats 8000000 in
theorem playsOrd {w : World} {A0 : Option Addr} {c0 : Nat} {l : List S29} {key : ByteArray} (hr0 : Kd.C k29 w A0 l.length l) (hc0 : l.length ≤ c0) :
    Calls Try.prog 3 #[.slice A0 l.length c0, .string key] w fun en w' => en = .returned (.bool true) ∧ Below w.heap.size w w' := by
  have hmax : l.length ≤ 9223372036854775807 := hr0.2.1
  have HR := Lib.hid hr0
  have HC := Lib.hid hc0
  by_cases hfar : (farB l || decide (200 < key.size)) = true
  · cases hf1 : farB l with
    | true =>
      have HF := Lib.hid ((far_f hmax).trans (by rw [hf1]))
      clear hfar hf1 hr0 hc0
      go_enter Try.func3, Try.ntmps3
      go_wp2_with fail
      refine (mewslaw12_far.calls (l.length + 1) A0 c0 l true w HR.out HC.out HF.out).mono ?_
      rintro en w1 ⟨rfl, hb⟩
      have HS1 := Lib.hid ((Sat.start w).below hb)
      clear hb
      go_wp2_with fail
      refine (aliveOrd HS1.out).mono ?_
      rintro en w5 ⟨rfl, S5⟩
      have HS5 := Lib.hid S5.old1
      clear S5
      go_wp2_with fail
      go_ret
      exact ⟨rfl, HS5.out⟩
    | false =>
      have HF := Lib.hid ((far_f hmax).trans (by rw [hf1]))
      rw [hf1, Bool.false_or] at hfar
      have hfar2 : decide ((200 : Int) < key.size) = true := decide_eq_true (by have := of_decide_eq_true hfar; omega)
      clear hf1 hr0 hc0
      go_enter Try.func3, Try.ntmps3
      go_wp2_with fail
      refine (mewslaw12_far.calls (l.length + 1) A0 c0 l false w HR.out HC.out HF.out).mono ?_
      rintro en w1 ⟨rfl, hb⟩
      have HS1 := Lib.hid ((Sat.start w).below hb)
      clear hb
      go_wp2_with fail
      refine (aliveOrd HS1.out).mono ?_
      rintro en w5 ⟨rfl, S5⟩
      have HS5 := Lib.hid S5.old1
      clear S5
      go_wp2_with fail
      go_ret
      exact ⟨rfl, HS5.out⟩
  · obtain ⟨hf1, hf2⟩ := Bool.or_eq_false_iff.1 (Bool.not_eq_true _ ▸ hfar)
    have hlen : l.length ≤ 300 := by
      unfold farB at hf1
      have := (Bool.or_eq_false_iff.1 hf1).2
      simpa using this
    have hf2' : decide ((200 : Int) < key.size) = false := decide_eq_false (by have := of_decide_eq_false hf2; omega)
    have hfar' := (far_f hmax).trans (by rw [hf1])
    have HF := Lib.hid hfar'
    clear hfar hfar' hr0 hc0 hf1
    go_enter Try.func3, Try.ntmps3
    go_wp2_with fail
    refine (mewslaw12_far.calls (l.length + 1) A0 c0 l false w HR.out HC.out HF.out).mono ?_
    rintro en w1 ⟨rfl, hb⟩
    have HS1 := Lib.hid ((Sat.start w).below hb)
    clear hb
    go_wp2_with fail
    refine (ordNew_calls HS1.out).mono ?_
    rintro en w2 ⟨o, rfl, e, m, S2⟩
    have HS2 : Hid (Sat w w2 (ord o [] * (made Kd.string 9 (.slice none 0 0) [] * old w))) := Lib.hid ((Sat.made_keep S2.ord_shut (Below.refl _ _) (Kd.R_nil _ _ _ _ (fun _ => True))).p2)
    clear S2 HS1
    go_wp2_with fail
    clear hf2 hf2'
    go_loopw [6, 24] (fun v6 v24 wr => ∃ i : Int, v24 = .int .i64 i ∧ 0 ≤ i ∧ i ≤ l.length ∧ Hid (Sat w wr (ord o (ost l i.toNat) * (made Kd.string 9 v6 (ost l i.toNat) * old w)))) (fun _ v24 _ => l.length - (intOf v24).toNat)
    case atStart => exact ⟨0, rfl, by omega, by omega, HS2⟩
    case round =>
      clear HS2
      obtain ⟨i, rfl, h0, h1, HSr⟩ := hrel
      obtain ⟨A6, c6, rfl, hc6, hC6⟩ := HSr.out.p2.made_reads
      have HC6 := Lib.hid hC6
      have HC6c := Lib.hid hc6
      clear hC6 hc6
      by_cases hlt : i < l.length
      · obtain ⟨ad, e1, hx0, hx1⟩ := at_T29 HR.out i h0 hlt
        cases e1
        have hbel := HSr.out.drop1.drop1.old1
        replace hx0 := (hbel.cell (World.block_lt_of_cell? w _ hx0)).trans hx0
        replace hx1 := (hbel.cell (World.block_lt_of_cell? w _ hx1)).trans hx1
        clear hbel
        have p0 := eq_true h0
        have p1 := eq_true hlt
        obtain ⟨xb, hxb⟩ : ∃ xb, xb = wr.heap.size := ⟨_, rfl⟩
        have hal := (HSr.out.alloc (.cells #[.bool (rd_T29 l i).f0, .string (rd_T29 l i).f1] 29))
        rw [← hxb] at hal
        have HAL := Lib.hid hal
        have HXB := Lib.hid hxb
        clear hal hxb
        have hk : i.toNat < l.length := by omega
        have erd : rd_T29 l i = l[i.toNat] := by unfold rd_T29; simp [List.getD_eq_getElem?_getD, hk]
        have hll : (ost l i.toNat).length ≤ 1000000000 := by have := ost_length l i.toNat; omega
        have HLL := Lib.hid hll
        have hst : ostep (ost l i.toNat) (rd_T29 l i) = ost l (i.toNat + 1) := by rw [ost_succ l _ hk, erd]
        have HST0 := Lib.hid hst
        clear hll hst erd
        cases hf0 : (rd_T29 l i).f0
        case' true =>
          rw [hf0] at hx0 HAL
          have HST : Hid (dropK (ost l i.toNat) (rd_T29 l i).f1 = ost l (i.toNat + 1)) := Lib.hid (by rw [← HST0.out]; unfold ostep; rw [if_pos hf0])
          go_wp2_with fail
          rw [← HXB.out]
          refine (ordDrop HAL.out.p2).mono ?_
          rintro en w3 ⟨rfl, S3⟩
          obtain ⟨x0, x1, fx⟩ := blk2 S3.p2.blk
          have hC3 : Kd.C Kd.string w3 A6 (ost l i.toNat).length (ost l i.toNat) := S3.p3.made_at
          have HC3 := Lib.hid hC3
          have HS3 := Lib.hid S3
          clear hC3 S3 HAL HC6
          go_wp2_with fail
          refine (mewsref12_Drop.calls ((ost l i.toNat).length + 1) A6 c6 (ost l i.toNat) (rd_T29 l i).f1 _ _ w3 HC3.out HC6c.out (drop_f HLL.out)).mono ?_
          rintro en w4 ⟨v7, rfl, hR7, hb7⟩
          have hS4 := ((HS3.out.p2.drop1.p2.drop1).made_keep hb7 hR7).p2
          rw [show dropK (ost l i.toNat) (rd_T29 l i).f1 = ost l (i.toNat + 1) from HST.out] at hS4
          have HS4 : Hid (Sat w w4 (ord o (ost l (i.toNat + 1)) * (made Kd.string 9 v7 (ost l (i.toNat + 1)) * old w))) := Lib.hid hS4
          clear hS4 hR7 hb7 HS3 HC3 x0 x1 fx
          go_upto_region 14 with (fail)
        case' false =>
          rw [hf0] at hx0 HAL
          have HST : Hid (dropK (ost l i.toNat) (rd_T29 l i).f1 ++ [(rd_T29 l i).f1] = ost l (i.toNat + 1)) := Lib.hid (by rw [← HST0.out]; unfold ostep; rw [if_neg (by rw [hf0]; decide)])
          go_wp2_with fail
          rw [← HXB.out]
          refine (ordTouch HAL.out.p2).mono ?_
          rintro en w3 ⟨rfl, S3⟩
          obtain ⟨x0, x1, fx⟩ := blk2 S3.p2.blk
          have hC3 : Kd.C Kd.string w3 A6 (ost l i.toNat).length (ost l i.toNat) := S3.p3.made_at
          have HC3 := Lib.hid hC3
          have HS3 := Lib.hid S3
          clear hC3 S3 HAL HC6
          go_wp2_with fail
          refine (mewsref12_Touch.calls ((ost l i.toNat).length + 1) A6 c6 (ost l i.toNat) (rd_T29 l i).f1 _ _ w3 HC3.out HC6c.out (touch_f HLL.out)).mono ?_
          rintro en w4 ⟨v7, rfl, hR7, hb7⟩
          have hS4 := ((HS3.out.p2.drop1.p2.drop1).made_keep hb7 hR7).p2
          rw [show dropK (ost l i.toNat) (rd_T29 l i).f1 ++ [(rd_T29 l i).f1] = ost l (i.toNat + 1) from HST.out] at hS4
          have HS4 : Hid (Sat w w4 (ord o (ost l (i.toNat + 1)) * (made Kd.string 9 v7 (ost l (i.toNat + 1)) * old w))) := Lib.hid hS4
          clear hS4 hR7 hb7 HS3 HC3 x0 x1 fx
          go_upto_region 14 with (fail)
        all_goals
          clear HLL
          have hll : (ost l (i.toNat + 1)).length ≤ 1000000000 := by have := ost_length l (i.toNat + 1); omega
          have HLL := Lib.hid hll
          clear hll hx0 hx1 hk hf0
          obtain ⟨L, hL⟩ : ∃ L, L = ost l (i.toNat + 1) := ⟨_, rfl⟩
          rw [← hL] at HS4 HLL
          have HL := Lib.hid hL
          obtain ⟨A7, c7, rfl, hc7, hC7⟩ := HS4.out.p2.made_reads
          have HC7c := Lib.hid hc7
          clear hL hC7 hc7 HST HST0 HC6c
          cases L with
          | nil =>
            go_wp2_with fail
            refine (ordOldest HS4.out).mono ?_
            rintro en w5 ⟨rfl, S5⟩
            have HS5 := Lib.hid S5
            clear S5 HS4
            rw [show ([] : List ByteArray).headD ⟨#[]⟩ = ⟨#[]⟩ from rfl, show (!([] : List ByteArray).isEmpty) = false from rfl]
            go_wp2_with fail
            refine (ordLen HS5.out).mono ?_
            rintro en w6 ⟨rfl, rfl⟩
            go_wp2_with fail
            refine (ordAll HLL.out HS5.out).mono ?_
            rintro en w7 ⟨v, rfl, S7⟩
            obtain ⟨A, c, rfl, hc, hC⟩ := S7.row_str rfl
            have hC' := S7.p3.made_at
            have HC := Lib.hid hC
            have HCc := Lib.hid hc
            have HC' := Lib.hid hC'
            have HS7 := Lib.hid S7.drop1
            clear S7 hC hC' hc HS5
            go_wp2_with fail
            refine (mewsref02_Same.calls ([].length + 1) A c [] A7 c7 [] true w7 HC.out HCc.out HC'.out HC7c.out ((same_f _ _ (by have := HLL.out; omega)).trans (by simp))).mono ?_
            rintro en w8 ⟨rfl, hd⟩
            have HS8 := Lib.hid (drawn_sat HS7.out hd)
            clear HS7 hd HC HC' HCc
            go_wp2_with fail
            refine (ordHas HS8.out).mono ?_
            rintro en w9 ⟨rfl, rfl⟩
            have hC' := HS8.out.p2.made_at
            have HC' := Lib.hid hC'
            clear hC'
            go_wp2_with fail
            refine (mewsref12_Has.calls ([].length + 1) A7 c7 [] key (hasK [] key) w9 HC'.out HC7c.out (has_f HLL.out)).mono ?_
            rintro en w10 ⟨rfl, hd⟩
            have HS10 := Lib.hid (drawn_sat HS8.out hd)
            clear HS8 hd HC'
            go_wp2_with fail
            go_roundw
            case rel => exact ⟨i + 1, rfl, by omega, by omega, by rw [show (i + 1).toNat = i.toNat + 1 from by omega, ← HL.out]; exact HS10.out⟩
            case measure => simp [intOf]; omega
          | cons a t =>
            go_wp2_with fail
            refine (ordOldest HS4.out).mono ?_
            rintro en w5 ⟨rfl, S5⟩
            have HS5 := Lib.hid S5
            clear S5 HS4
            rw [show (a :: t).headD ⟨#[]⟩ = a from rfl, show (!(a :: t).isEmpty) = true from rfl]
            go_wp2_with fail
            refine (ordLen HS5.out).mono ?_
            rintro en w6 ⟨rfl, rfl⟩
            go_wp2_with fail
            refine (ordAll HLL.out HS5.out).mono ?_
            rintro en w7 ⟨v, rfl, S7⟩
            obtain ⟨A, c, rfl, hc, hC⟩ := S7.row_str rfl
            have hC' := S7.p3.made_at
            have HC := Lib.hid hC
            have HCc := Lib.hid hc
            have HC' := Lib.hid hC'
            have HS7 := Lib.hid S7.drop1
            clear S7 hC hC' hc HS5
            go_wp2_with fail
            refine (mewsref02_Same.calls ((a :: t).length + 1) A c (a :: t) A7 c7 (a :: t) true w7 HC.out HCc.out HC'.out HC7c.out ((same_f _ _ (by have := HLL.out; omega)).trans (by simp))).mono ?_
            rintro en w8 ⟨rfl, hd⟩
            have HS8 := Lib.hid (drawn_sat HS7.out hd)
            clear HS7 hd HC HC' HCc
            go_wp2_with fail
            refine (ordHas HS8.out).mono ?_
            rintro en w9 ⟨rfl, rfl⟩
            have hC' := HS8.out.p2.made_at
            have HC' := Lib.hid hC'
            clear hC'
            go_wp2_with fail
            refine (mewsref12_Has.calls ((a :: t).length + 1) A7 c7 (a :: t) key (hasK (a :: t) key) w9 HC'.out HC7c.out (has_f HLL.out)).mono ?_
            rintro en w10 ⟨rfl, hd⟩
            have HS10 := Lib.hid (drawn_sat HS8.out hd)
            clear HS8 hd HC'
            have hC' := HS10.out.p2.made_at
            obtain ⟨ad7, e7, hx7⟩ := Kd.at_string hC' 0 (by omega) (by simp)
            subst e7
            have hx7' : w10.cell? ad7 = some (.string a) := hx7
            clear hC' hx7
            go_wp2_with fail
            go_roundw
            case rel => exact ⟨i + 1, rfl, by omega, by omega, by rw [show (i + 1).toNat = i.toNat + 1 from by omega, ← HL.out]; exact HS10.out⟩
            case measure => simp [intOf]; omega
      · have hge : ¬ i < (l.length : Int) := hlt
        clear hlt
        go_wp2_with fail
        refine (aliveOrd HSr.out).mono ?_
        rintro en w5 ⟨rfl, S5⟩
        have HS5 := Lib.hid S5.drop1.drop1.old1
        clear S5
        go_wp2_with fail
        go_ret
        exact ⟨rfl, HS5.out⟩
end Go.Sl
