/-
  'mewslaw13.FreqPlays', walked.
-/
import Derived.Test.YtgkjendknckibaaLawFqW
import Derived.Test.YtgkjendknckibaaOpen
import Derived.KernelRfl
namespace Go.Sl
open Go.RowKit Go.Proofs Go.Proofs.YtgkjendknckibaaW.PrintWords Go.Proofs.Ytgkjendknckibaa.PFreq
set_option linter.unusedVariables false
set_option maxRecDepth 100000

abbrev Opf := S64
/-- What one call leaves. -/
def fstep (s : List Mk × Int) (x : Opf) : List Mk × Int := if x.f0 = 0 then (touchM s.1 x.f1 (s.2 + 1), s.2 + 1) else if x.f0 = 1 then (lessM s.1 x.f1, s.2) else (s.1.map halfM, s.2)
def fso (l : List Opf) (k : Nat) : List Mk × Int := (l.take k).foldl fstep ([], 0)
theorem fso_succ (l : List Opf) (k : Nat) (h : k < l.length) : fso l (k + 1) = fstep (fso l k) l[k] := by
  unfold fso
  rw [List.take_succ_eq_append_getElem h, List.foldl_append]
  rfl
theorem fso_now (l : List Opf) : ∀ k, k ≤ l.length → 0 ≤ (fso l k).2 ∧ (fso l k).2 ≤ k
  | 0, _ => by simp [fso]
  | k + 1, h => by
    have ih := fso_now l k (by omega)
    rw [fso_succ l k (by omega)]
    unfold fstep
    split
    · simp only; omega
    · split
      · simp only; omega
      · simp only; omega
theorem lessRN_rl (es : List Mk) : lessRN (rl es) = lessN es := by
  unfold lessRN rl lessN
  rw [List.filter_map, List.length_map]; rfl
theorem half_rl (es : List Mk) : (rl es).map halfR = rl (es.map halfM) := by
  unfold rl
  rw [List.map_map, List.map_map]; rfl

set_option maxHeartbeats 16000000 in
theorem playsFq {w : World} {A0 : Option Addr} {c0 : Nat} {l : List Opf} {key : ByteArray} (hr0 : Kd.C k64 w A0 l.length l) (hc0 : l.length ≤ c0) :
    Calls Try.prog 8 #[.slice A0 l.length c0, .string key] w fun en w' => en = .returned (.bool true) ∧ Below w.heap.size w w' := by
  have hmax : l.length ≤ 9223372036854775807 := hr0.2.1
  have HR := Lib.hid hr0
  have HC := Lib.hid hc0
  by_cases hfar : (farB l || decide (200 < key.size)) = true
  · cases hf1 : farB l with
    | true =>
      have HF := Lib.hid ((far_f hmax).trans (by rw [hf1]))
      clear hfar hf1 hr0 hc0
      go_enter Try.func8, Try.ntmps8
      go_wp2_with fail
      refine (mewslaw13_far.calls (l.length + 1) A0 c0 l true w HR.out HC.out HF.out).mono ?_
      rintro en w1 ⟨rfl, hb⟩
      have HS1 := Lib.hid ((Sat.start w).below hb)
      clear hb
      go_wp2_with fail
      refine (aliveFq HS1.out).mono ?_
      rintro en w5 ⟨rfl, S5⟩
      have HS5 := Lib.hid S5.old1
      clear S5
      go_wp2_with fail
      go_ret
      exact ⟨rfl, HS5.out⟩
    | false =>
      have HF := Lib.hid ((far_f hmax).trans (by rw [hf1]))
      rw [hf1, Bool.false_or] at hfar
      have hfar2 : decide ((200 : Int) < key.size) = true := decide_eq_true (by have := of_decide_eq_true hfar; omega)
      clear hf1 hr0 hc0
      go_enter Try.func8, Try.ntmps8
      go_wp2_with fail
      refine (mewslaw13_far.calls (l.length + 1) A0 c0 l false w HR.out HC.out HF.out).mono ?_
      rintro en w1 ⟨rfl, hb⟩
      have HS1 := Lib.hid ((Sat.start w).below hb)
      clear hb
      go_wp2_with fail
      refine (aliveFq HS1.out).mono ?_
      rintro en w5 ⟨rfl, S5⟩
      have HS5 := Lib.hid S5.old1
      clear S5
      go_wp2_with fail
      go_ret
      exact ⟨rfl, HS5.out⟩
  · obtain ⟨hf1, hf2⟩ := Bool.or_eq_false_iff.1 (Bool.not_eq_true _ ▸ hfar)
    have hlen : l.length ≤ 400 := by
      unfold farB at hf1
      have := (Bool.or_eq_false_iff.1 hf1).2
      simpa using this
    have hf2' : decide ((200 : Int) < key.size) = false := decide_eq_false (by have := of_decide_eq_false hf2; omega)
    have hfar' := (far_f hmax).trans (by rw [hf1])
    have HF := Lib.hid hfar'
    clear hfar hfar' hr0 hc0 hf1
    go_enter Try.func8, Try.ntmps8
    go_wp2_with fail
    refine (mewslaw13_far.calls (l.length + 1) A0 c0 l false w HR.out HC.out HF.out).mono ?_
    rintro en w1 ⟨rfl, hb⟩
    have HS1 := Lib.hid ((Sat.start w).below hb)
    clear hb
    go_wp2_with fail
    refine (bkNew HS1.out).mono ?_
    rintro en w2 ⟨b, rfl, S2⟩
    have HS2 : Hid (Sat w w2 (bk b (fso l 0).1 (fso l 0).2 * (made k93 93 (.slice none 0 0) (rl (fso l 0).1) * old w))) := Lib.hid ((Sat.made_keep S2 (Below.refl _ _) (Kd.R_nil _ _ _ _ (fun _ => True))).p2)
    clear S2 HS1
    go_wp2_with fail
    clear hf2 hf2'
    go_loopw [6, 27] (fun v6 v27 wr => ∃ q : Nat × List Mk × Int, v27 = .int .i64 q.1 ∧ q.1 ≤ l.length ∧ Hid (fso l q.1 = q.2) ∧ Hid (Sat w wr (bk b q.2.1 q.2.2 * (made k93 93 v6 (rl q.2.1) * old w)))) (fun _ v27 _ => l.length - (RowKit.intOf v27).toNat)
    case atStart => exact ⟨(0, fso l 0), rfl, by simp, Lib.hid rfl, HS2⟩
    case round =>
      clear HS2
      obtain ⟨⟨i, es, now⟩, rfl, hi, HE, HSr⟩ := hrel
      simp only at hi HE HSr
      obtain ⟨A6, c6, rfl, hc6, hC6⟩ := HSr.out.p2.made_reads
      have HC6 := Lib.hid hC6
      have HC6c := Lib.hid hc6
      clear hC6 hc6
      by_cases hlt : i < l.length
      · obtain ⟨ad, e1, hx0, hx1⟩ := at_T64 HR.out (i : Int) (by omega) (by omega)
        cases e1
        have erd : rd_T64 l (i : Int) = l[i] := by unfold rd_T64; simp [List.getD_eq_getElem?_getD, hlt]
        rw [Int.toNat_natCast, erd] at hx0 hx1
        have hbel := HSr.out.drop1.drop1.old1
        replace hx0 := (hbel.cell (World.block_lt_of_cell? w _ hx0)).trans hx0
        replace hx1 := (hbel.cell (World.block_lt_of_cell? w _ hx1)).trans hx1
        clear hbel erd
        obtain ⟨xb, hxb⟩ : ∃ xb, xb = wr.heap.size := ⟨_, rfl⟩
        have hal := (HSr.out.alloc (.cells #[.int .i64 l[i].f0, .string l[i].f1] 64))
        rw [← hxb] at hal
        have HAL := Lib.hid hal
        have HXB := Lib.hid hxb
        clear hal hxb
        have hnow := fso_now l i hi
        obtain ⟨mb0, rb0, hok, -⟩ := HSr.out.bk_open
        rw [HE.out] at hnow
        have hbig : es.length ≤ 1000 := by have := hok.len; omega
        have HNW := Lib.hid hnow
        have HOK := Lib.hid hok
        have HBIG := Lib.hid hbig
        have HST := Lib.hid (fso_succ l i hlt)
        clear hnow hok hbig
        obtain ⟨kd, hkd⟩ : ∃ kd, kd = l[i].f0 := ⟨_, rfl⟩
        obtain ⟨ky, hky⟩ : ∃ ky, ky = l[i].f1 := ⟨_, rfl⟩
        rw [← hkd] at hx0
        rw [← hky] at hx1
        rw [← hkd, ← hky] at HAL
        have HKD := Lib.hid hkd
        have HKY := Lib.hid hky
        clear hkd hky
        by_cases k0 : kd = 0
        case' pos =>
          have d0 : (kd == 0) = true := beq_iff_eq.2 k0
          have hcc : 0 ≤ cntOf es ky ∧ cntOf es ky ≤ 255 := by obtain ⟨_, _, _, a, b⟩ := touch_at HOK.out ky; exact ⟨a, b⟩
          have HCT := Lib.hid (rtouch_f (t := now + 1) (es := es) (key := ky) (by have := HBIG.out; omega) hcc.1 hcc.2)
          have HST2 : Hid (fso l (i + 1) = (touchM es ky (now + 1), now + 1)) := Lib.hid (by rw [HST.out]; unfold fstep; rw [if_pos (HKD.out ▸ k0), HE.out, ← HKY.out])
          clear hcc k0
          go_wp2_with fail
          rw [← HXB.out]
          refine (bkTouch (by have := HNW.out; omega) HAL.out.p2).mono ?_
          rintro en w3 ⟨rfl, S3⟩
          obtain ⟨x0, x1, fx⟩ := blk2 S3.p2.blk
          have hC3 : Kd.C k93 w3 A6 (rl es).length (rl es) := S3.p3.made_at
          have HC3 := Lib.hid hC3
          have HS3 := Lib.hid S3
          clear hC3 S3 HAL HC6
          go_wp2_with fail
          refine (mewsref13_Touch.calls ((rl es).length + 1) A6 c6 (rl es) ky _ _ w3 HC3.out HC6c.out HCT.out).mono ?_
          rintro en w4 ⟨v7, rfl, hR7, hb7⟩
          have S4 := ((HS3.out.p2.drop1.p2.drop1).made_keep hb7 hR7).p2
          have HS4 : Hid (Sat w w4 (bk b (fso l (i + 1)).1 (fso l (i + 1)).2 * (made k93 93 v7 (rl (fso l (i + 1)).1) * old w))) := Lib.hid (by rw [HST2.out]; exact S4)
          clear S4 hR7 hb7 HS3 HC3 x0 x1 fx HCT HST2
          go_upto_region 19 with (fail)
        case' neg =>
          have d0 : (kd == 0) = false := beq_eq_false_iff_ne.2 k0
          by_cases k1 : kd = 1
          case' pos =>
            have d1 : (kd == 1) = true := beq_iff_eq.2 k1
            have HCT := Lib.hid (rdrop_f (es := es) (key := ky) (by have := HBIG.out; omega))
            have HST2 : Hid (fso l (i + 1) = (lessM es ky, now)) := Lib.hid (by rw [HST.out]; unfold fstep; rw [if_neg (HKD.out ▸ k0), if_pos (HKD.out ▸ k1), HE.out, ← HKY.out])
            clear k0 k1
            go_wp2_with fail
            rw [← HXB.out]
            refine (bkDrop HAL.out.p2).mono ?_
            rintro en w3 ⟨rfl, S3⟩
            obtain ⟨x0, x1, fx⟩ := blk2 S3.p2.blk
            have hC3 : Kd.C k93 w3 A6 (rl es).length (rl es) := S3.p3.made_at
            have HC3 := Lib.hid hC3
            have HS3 := Lib.hid S3
            clear hC3 S3 HAL HC6
            go_wp2_with fail
            refine (mewsref13_Drop.calls ((rl es).length + 1) A6 c6 (rl es) ky _ _ w3 HC3.out HC6c.out HCT.out).mono ?_
            rintro en w4 ⟨v7, rfl, hR7, hb7⟩
            have S4 := ((HS3.out.p2.drop1.p2.drop1).made_keep hb7 hR7).p2
            have HS4 : Hid (Sat w w4 (bk b (fso l (i + 1)).1 (fso l (i + 1)).2 * (made k93 93 v7 (rl (fso l (i + 1)).1) * old w))) := Lib.hid (by rw [HST2.out]; exact S4)
            clear S4 hR7 hb7 HS3 HC3 x0 x1 fx HCT HST2
            go_upto_region 19 with (fail)
          case' neg =>
            have d1 : (kd == 1) = false := beq_eq_false_iff_ne.2 k1
            have HST2 : Hid (fso l (i + 1) = (es.map halfM, now)) := Lib.hid (by rw [HST.out]; unfold fstep; rw [if_neg (HKD.out ▸ k0), if_neg (HKD.out ▸ k1), HE.out])
            clear k0 k1
            go_wp2_with fail
            rw [← HXB.out]
            refine (bkHalve HAL.out.p2).mono ?_
            rintro en w3 ⟨rfl, S3⟩
            obtain ⟨x0, x1, fx⟩ := blk2 S3.p2.blk
            have hC3 : Kd.C k93 w3 A6 (rl es).length (rl es) := S3.p3.made_at
            have HC3 := Lib.hid hC3
            have HS3 := Lib.hid S3
            clear hC3 S3 HAL HC6
            go_wp2_with fail
            refine (rhalve HC3.out HC6c.out (by rw [rl_length]; have := HBIG.out; omega) (fun x hx => by
              obtain ⟨m, hm, rfl⟩ := List.mem_map.1 hx
              have := HOK.out.pos m hm
              exact ⟨by show 0 ≤ m.c; omega, this.2.1⟩)).mono ?_
            rintro en w4 ⟨v7, rfl, hR7, hb7⟩
            rw [half_rl] at hR7
            rw [lessRN_rl]
            have S4 := ((HS3.out.p2.drop1.p2.drop1).made_keep hb7 hR7).p2
            have HS4 : Hid (Sat w w4 (bk b (fso l (i + 1)).1 (fso l (i + 1)).2 * (made k93 93 v7 (rl (fso l (i + 1)).1) * old w))) := Lib.hid (by rw [HST2.out]; exact S4)
            clear S4 hR7 hb7 HS3 HC3 x0 x1 fx HST2
            go_upto_region 19 with (fail)
        all_goals
          clear d0 hx0 hx1
          obtain ⟨es2, now2, h2⟩ : ∃ a c, fso l (i + 1) = (a, c) := ⟨_, _, rfl⟩
          have HS4' : Hid (Sat w w4 (bk b es2 now2 * (made k93 93 v7 (rl es2) * old w))) := Lib.hid (by have := HS4.out; rw [h2] at this; exact this)
          clear HS4
          have HS4 := Lib.hid HS4'.out
          clear HS4'
          have H2 := Lib.hid h2
          obtain ⟨A7, c7, rfl, hc7, hC7⟩ := HS4.out.p2.made_reads
          have hnow2 := fso_now l (i + 1) (by omega)
          rw [h2] at hnow2
          obtain ⟨mb2, rb2, hok2, -⟩ := HS4.out.bk_open
          have hbig2 : es2.length ≤ 1000 := by have := hok2.len; simp only at hnow2; omega
          have HBIG2 := Lib.hid hbig2
          have HOK2 := Lib.hid hok2
          have HC7 := Lib.hid hC7
          have HC7c := Lib.hid hc7
          clear h2 hc7 hC7 hnow2 hok2 hbig2
          go_wp2_with fail
          refine (bkLen HS4.out).mono ?_
          rintro en w5 ⟨rfl, rfl⟩
          rw [← rl_length es2]
          go_wp2_with fail
          refine (bkCount HS4.out).mono ?_
          rintro en w6 ⟨rfl, rfl⟩
          go_wp2_with fail
          refine (mewsref13_Count.calls ((rl es2).length + 1) A7 c7 (rl es2) key _ _ HC7.out HC7c.out (rcnt_f (by have := HBIG2.out; omega))).mono ?_
          rintro en w7 ⟨rfl, hd⟩
          have HS7 := Lib.hid (drawn_sat HS4.out hd)
          clear hd HS4 HC7
          go_wp2_with fail
          case roundEnd =>
            go_roundw
            case rel => exact ⟨(i + 1, es2, now2), by simp, by simp only; omega, H2, HS7⟩
            case measure => simp [RowKit.intOf]; omega
          all_goals
            obtain ⟨L, hL⟩ : ∃ L, L = allOf es2 := ⟨_, rfl⟩
            have hll : L.length ≤ 1000 := by rw [hL, allOf_length HOK2.out]; exact HBIG2.out
            have HLL := Lib.hid hll
            have HL := Lib.hid hL
            have hC7 := HS7.out.p2.made_at
            have HC7 := Lib.hid hC7
            clear hL hll hC7
            refine (mewsref13_All.calls _ A7 c7 (rl es2) L _ HC7.out HC7c.out (by rw [HL.out]; exact rall_f HOK2.out)).mono ?_
            rintro en w8 ⟨v8, rfl, hR8, hb8⟩
            have S8 := HS7.out.made_keep hb8 hR8
            obtain ⟨A8, c8, rfl, hc8, hC8⟩ := S8.made_reads
            have HC8c := Lib.hid hc8
            have HS8 := Lib.hid S8
            clear S8 hR8 hb8 hc8 hC8 HC7 HS7
            go_wp2_with fail
            refine (bkLeast HS8.out.p2).mono ?_
            rintro en w9 ⟨rfl, S9⟩
            rw [← HL.out]
            have HS9 := Lib.hid S9
            clear S9 HS8
            cases L with
            | nil =>
              rw [show ([] : List ByteArray).headD ⟨#[]⟩ = ⟨#[]⟩ from rfl, show (!([] : List ByteArray).isEmpty) = false from rfl]
              go_wp2_with fail
              refine (bkAll HS9.out).mono ?_
              rintro en w10 ⟨v, rfl, S10⟩
              rw [← HL.out] at S10
              obtain ⟨A, c, rfl, hc, hC⟩ := S10.row_str rfl
              have hC8 := S10.p3.made_at
              have HC := Lib.hid hC
              have HCc := Lib.hid hc
              have HC8 := Lib.hid hC8
              have HS10 := Lib.hid S10.drop1
              clear S10 hC hC8 hc HS9
              go_wp2_with fail
              refine (mewsref02_Same.calls (([] : List ByteArray).length + 1) A c [] A8 c8 [] true w10 HC.out HCc.out HC8.out HC8c.out ((same_f _ _ (by have := HLL.out; omega)).trans (by simp))).mono ?_
              rintro en w11 ⟨rfl, hd⟩
              have HS11 := Lib.hid (drawn_sat HS10.out hd)
              clear HS10 hd HC HC8 HCc
              go_wp2_with fail
              go_roundw
              case rel => exact ⟨(i + 1, es2, now2), by simp, by simp only; omega, H2, Lib.hid (HS11.out.p2.drop1)⟩
              case measure => simp [RowKit.intOf]; omega
            | cons a t =>
              rw [show ((a :: t) : List ByteArray).headD ⟨#[]⟩ = a from rfl, show (!((a :: t) : List ByteArray).isEmpty) = true from rfl]
              go_wp2_with fail
              refine (bkAll HS9.out).mono ?_
              rintro en w10 ⟨v, rfl, S10⟩
              rw [← HL.out] at S10
              obtain ⟨A, c, rfl, hc, hC⟩ := S10.row_str rfl
              have hC8 := S10.p3.made_at
              have HC := Lib.hid hC
              have HCc := Lib.hid hc
              have HC8 := Lib.hid hC8
              have HS10 := Lib.hid S10.drop1
              clear S10 hC hC8 hc HS9
              go_wp2_with fail
              refine (mewsref02_Same.calls (((a :: t) : List ByteArray).length + 1) A c (a :: t) A8 c8 (a :: t) true w10 HC.out HCc.out HC8.out HC8c.out ((same_f _ _ (by have := HLL.out; omega)).trans (by simp))).mono ?_
              rintro en w11 ⟨rfl, hd⟩
              have HS11 := Lib.hid (drawn_sat HS10.out hd)
              clear HS10 hd HC HC8 HCc
              have hC9 := HS11.out.p2.made_at
              obtain ⟨ad9, e9, hx9⟩ := Kd.at_string hC9 0 (by omega) (by simp)
              subst e9
              have hx9' : w11.cell? ad9 = some (.string a) := hx9
              clear hC9 hx9
              go_wp2_with fail
              go_roundw
              case rel => exact ⟨(i + 1, es2, now2), by simp, by simp only; omega, H2, Lib.hid (HS11.out.p2.drop1)⟩
              case measure => simp [RowKit.intOf]; omega
      · have hge : ¬ i < l.length := hlt
        clear hlt
        go_wp2_with fail
        refine (aliveFq HSr.out).mono ?_
        rintro en w5 ⟨rfl, S5⟩
        have HS5 := Lib.hid S5.drop1.drop1.old1
        clear S5
        go_wp2_with fail
        go_ret
        exact ⟨rfl, HS5.out⟩
instance : Inhabited Opf := ⟨z64⟩
theorem opensOp : Opens Try.prog 64 k64 (fun _ => True) := by
  have h := opens_struct (P := Try.prog) (t := 64) Try.underlying64 (by kernel_rfl) (opensFs_cons (opens_int Try.underlying3) rfl (by kernel_rfl) (opensFs_one (off := 1) (opens_string Try.underlying9) rfl (by kernel_rfl)) rfl rfl)
  exact (h.iso (fun x : Opf => (x.f0, x.f1)) (fun p => ⟨p.1, p.2⟩) (fun _ => rfl)).weaken (fun _ _ => trivial)
theorem opensOps : Opens Try.prog 60 (Kd.slice 64 k64) (fun xs => ∀ x ∈ xs, True) := opens_slice Try.underlying60 (by kernel_rfl) opensOp
theorem playsFqWalk {w : World} {A0 : Option Addr} {c0 : Nat} {l : List Opf} (hC : Kd.C k64 w A0 l.length l) (hc : l.length ≤ c0) (_ : ∀ x ∈ l, True) (key : ByteArray) (_ : key.size ≤ maxLen) :
    Calls Try.prog 8 #[.slice A0 l.length c0, .string key] w fun en w' => en = .returned (.bool true) ∧ Below w.heap.size w w' := playsFq hC hc
end Go.Sl
