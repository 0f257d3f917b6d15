/-
  'mewslaw11.TimerDue': the plain law, and the walk.
-/
import Derived.Test.YtgkjendknckibaaLawTm
import Derived.Deep.QuietTactic
import Derived.BigQuiet
import Derived.IntWalk
import Derived.Laws.Cover1
namespace Go.Sl
open Go.RowKit Go.Proofs Go.Proofs.YtgkjendknckibaaW.PrintWords Go.Proofs.Ytgkjendknckibaa.PTim
set_option linter.unusedVariables false
set_option maxRecDepth 100000

theorem Sat.drewN {w0 w : World} {A : HP} (S : Sat w0 w A) (n : Nat) : Sat w0 (w.drewN n) A := S.below ⟨rfl, rfl, rfl, Nat.le_refl _, fun _ _ => rfl⟩
/-- All keys' times, set one by one. -/
def tso (l : List Opt) (k : Nat) : List Tm := (l.take k).foldl (fun r x => setL r x.f1 x.f2) []
theorem tso_succ (l : List Opt) (k : Nat) (h : k < l.length) : tso l (k + 1) = setL (tso l k) l[k].f1 l[k].f2 := by
  unfold tso
  rw [List.take_succ_eq_append_getElem h, List.foldl_append]; rfl
theorem setL_length (r : List Tm) (key : ByteArray) (t : Int) : (setL r key t).length ≤ r.length + 1 := by
  unfold setL
  rw [(insT_perm _ _).length_eq, List.length_append, List.length_singleton]
  have : (lessT r key).length ≤ r.length := List.length_filter_le _ _
  omega
theorem tso_length (l : List Opt) : ∀ k, (tso l k).length ≤ k
  | 0 => by simp [tso]
  | k + 1 => by
    by_cases h : k < l.length
    · rw [tso_succ l k h]
      have := tso_length l k
      have := setL_length (tso l k) l[k].f1 l[k].f2
      omega
    · have : tso l (k + 1) = tso l k := by unfold tso; rw [List.take_of_length_le (by omega), List.take_of_length_le (by omega)]
      rw [this]
      have := tso_length l k
      omega
theorem dueLeft (r : List Tm) (now : Int) : dueOf r now ++ leftOf r now = r := List.takeWhile_append_dropWhile
theorem due_length (r : List Tm) (now : Int) : (dueOf r now).length + (leftOf r now).length = r.length := by rw [← List.length_append, dueLeft]
theorem srt_le {r : List Tm} (h : Srt r) {i j : Nat} (hij : i ≤ j) (hj : j < r.length) : r[i].f1 ≤ r[j].f1 := by
  by_cases e : i = j
  · subst e; omega
  · have := List.pairwise_iff_getElem.1 h i j (by omega) hj (by omega)
    rw [ltT_iff] at this
    omega
theorem due_iff {r : List Tm} (h : Srt r) (now : Int) {i : Nat} (hi : i < r.length) : i < (dueOf r now).length ↔ r[i].f1 ≤ now := by
  have hl := due_length r now
  have he := dueLeft r now
  constructor
  · intro hlt
    have h1 : r[i] = (dueOf r now)[i] := by
      have : (dueOf r now ++ leftOf r now)[i]? = (dueOf r now)[i]? := List.getElem?_append_left hlt
      rw [he, List.getElem?_eq_getElem hi, List.getElem?_eq_getElem hlt] at this
      injection this
    have h2 := List.all_eq_true.1 (List.all_takeWhile (p := fun x : Tm => decide (x.f1 ≤ now)) (l := r)) (dueOf r now)[i] (List.getElem_mem hlt)
    rw [h1]; simpa using h2
  · intro hle
    by_cases hge : i < (dueOf r now).length
    · exact hge
    · exfalso
      have hd : (dueOf r now).length < r.length := by omega
      have h1 : r[(dueOf r now).length].f1 ≤ now := by
        have := srt_le h (i := (dueOf r now).length) (j := i) (by omega) hi
        omega
      have hx : (leftOf r now).head? = some r[(dueOf r now).length] := by
        have : (dueOf r now ++ leftOf r now)[(dueOf r now).length]? = (leftOf r now)[0]? := by rw [List.getElem?_append_right (Nat.le_refl _), Nat.sub_self]
        rw [he, List.getElem?_eq_getElem hd] at this
        rw [List.head?_eq_getElem?, ← this]
      have h3 := List.head?_dropWhile_not (fun x : Tm => decide (x.f1 ≤ now)) r
      have hx' : (r.dropWhile fun x : Tm => decide (x.f1 ≤ now)).head? = some r[(dueOf r now).length] := hx
      rw [hx'] at h3
      simp at h3; omega
theorem due_at {r : List Tm} {now : Int} {i : Nat} (hi : i < r.length) (hlt : i < (dueOf r now).length) : ((dueOf r now).map (·.f0))[i]? = some r[i].f0 := by
  have h1 : (dueOf r now ++ leftOf r now)[i]? = (dueOf r now)[i]? := List.getElem?_append_left hlt
  rw [dueLeft, List.getElem?_eq_getElem hi] at h1
  rw [List.getElem?_map, ← h1]; rfl
theorem left_first {r : List Tm} {now : Int} {x : Tm} (h : (leftOf r now).head? = some x) : ¬ x.f1 ≤ now := by
  have h3 := List.head?_dropWhile_not (fun x : Tm => decide (x.f1 ≤ now)) r
  have hx' : (r.dropWhile fun x : Tm => decide (x.f1 ≤ now)).head? = some x := h
  rw [hx'] at h3
  simpa using h3
theorem left_due {r : List Tm} {now : Int} : dueOf (leftOf r now) now = [] := by
  cases hl : leftOf r now with
  | nil => rfl
  | cons x t =>
    have := left_first (r := r) (now := now) (x := x) (by rw [hl]; rfl)
    unfold dueOf
    rw [List.takeWhile_cons_of_neg (by simpa using this)]
theorem tso_srt (l : List Opt) : ∀ k, Srt (tso l k)
  | 0 => List.Pairwise.nil
  | k + 1 => by
    by_cases h : k < l.length
    · rw [tso_succ l k h]; exact insT_srt (srt_less (tso_srt l k) _) lessT_key
    · have : tso l (k + 1) = tso l k := by unfold tso; rw [List.take_of_length_le (by omega), List.take_of_length_le (by omega)]
      rw [this]; exact tso_srt l k
set_option maxHeartbeats 16000000 in
theorem dueTm {w : World} {A0 : Option Addr} {c0 : Nat} {l : List Opt} {now : Int} (hr0 : Kd.C k28 w A0 l.length l) (hc0 : l.length ≤ c0) :
    Calls Try.prog 3 #[.slice A0 l.length c0, .int .i64 now] w fun en w' => en = .returned (.bool true) ∧ Below w.heap.size w w' := by
  have hmax : l.length ≤ 9223372036854775807 := hr0.2.1
  have HR := Lib.hid hr0
  have HC := Lib.hid hc0
  cases hf1 : farB l with
  | true =>
    have HF := Lib.hid ((far_f hmax).trans (by rw [hf1]))
    clear hf1 hr0 hc0
    go_enter Try.func3, Try.ntmps3
    go_wp2_with fail
    refine (mewslaw11_far.calls (l.length + 1) A0 c0 l true w HR.out HC.out HF.out).mono ?_
    rintro en w1 ⟨rfl, hb⟩
    have HS1 := Lib.hid ((Sat.start w).below hb)
    clear hb
    go_wp2_with fail
    refine (aliveTm HS1.out).mono ?_
    rintro en w5 ⟨rfl, S5⟩
    have HS5 := Lib.hid S5.old1
    clear S5
    go_wp2_with fail
    go_ret
    exact ⟨rfl, HS5.out⟩
  | false =>
    have hlen : l.length ≤ 300 := by
      unfold farB at hf1
      have := (Bool.or_eq_false_iff.1 hf1).2
      simpa using this
    have HF := Lib.hid ((far_f hmax).trans (by rw [hf1]))
    clear hr0 hc0 hf1
    go_enter Try.func3, Try.ntmps3
    go_wp2_with fail
    refine (mewslaw11_far.calls (l.length + 1) A0 c0 l false w HR.out HC.out HF.out).mono ?_
    rintro en w1 ⟨rfl, hb⟩
    have HS1 := Lib.hid ((Sat.start w).below hb)
    clear hb
    go_wp2_with fail
    refine (tbNew HS1.out).mono ?_
    rintro en w2 ⟨b, rfl, S2⟩
    have HS2 : Hid (Sat w w2 (tmb b (tso l 0) * old w)) := Lib.hid S2
    clear S2 HS1
    go_wp2_with fail
    go_loopw [20] (fun v20 wr => ∃ i : Nat, v20 = .int .i64 i ∧ i ≤ l.length ∧ Hid (Sat w wr (tmb b (tso l i) * old w))) (fun v20 _ => l.length - (RowKit.intOf v20).toNat)
    case atStart => exact ⟨0, rfl, by simp, HS2⟩
    case round =>
      clear HS2
      obtain ⟨i, rfl, hi, HSr⟩ := hrel
      by_cases hlt : i < l.length
      · obtain ⟨ad, e1, hx0, hx1, hx2⟩ := at_T28 HR.out (i : Int) (by omega) (by omega)
        cases e1
        have erd : rd_T28 l (i : Int) = l[i] := by unfold rd_T28; simp [List.getD_eq_getElem?_getD, hlt]
        rw [Int.toNat_natCast, erd] at hx0 hx1 hx2
        have hbel := HSr.out.drop1.old1
        replace hx0 := (hbel.cell (World.block_lt_of_cell? w _ hx0)).trans hx0
        replace hx1 := (hbel.cell (World.block_lt_of_cell? w _ hx1)).trans hx1
        replace hx2 := (hbel.cell (World.block_lt_of_cell? w _ hx2)).trans hx2
        clear hbel erd
        have HLL := Lib.hid (tso_length l i)
        have HST := Lib.hid (tso_succ l i hlt)
        generalize hky : l[i].f1 = ky at *
        generalize htt : l[i].f2 = tt at *
        generalize hkd : l[i].f0 = kd at *
        have HAL := Lib.hid ((HSr.out.alloc (.cells #[.int .i64 kd, .string ky, .int .i64 tt] 28)).drop1)
        clear HSr hky htt hkd
        go_wp2_with fail
        refine (tbSet (by have := HLL.out; omega) HAL.out).mono ?_
        rintro en w3 ⟨rfl, S3⟩
        rw [← HST.out] at S3
        have HS3 := Lib.hid S3
        clear S3 HAL HST HLL
        go_wp2_with fail
        go_roundw
        case rel => exact ⟨i + 1, by simp, by omega, HS3⟩
        case measure => simp [RowKit.intOf]; omega
      · have hi2 : i = l.length := by omega
        subst hi2
        clear hlt hi
        obtain ⟨r, hr⟩ : ∃ r, r = tso l l.length := ⟨_, rfl⟩
        have hll := tso_length l l.length
        have hsr := tso_srt l l.length
        rw [← hr] at HSr hll hsr
        have HSRT := Lib.hid hsr
        have hll2 : r.length ≤ 300 := by omega
        clear hr hll hsr
        go_wp2_with fail
        refine (tbAll HSr.out).mono ?_
        rintro en w5 ⟨v, rfl, S5⟩
        obtain ⟨A8, c8, rfl, -, -⟩ := Sat.row_C flatT rfl S5
        have HS5 := Lib.hid S5
        clear S5 HSr
        go_wp2_with fail
        refine (tbDue HS5.out.p2).mono ?_
        rintro en w6 ⟨v, rfl, S6⟩
        obtain ⟨D, hD⟩ : ∃ D, D = (dueOf r now).map (·.f0) := ⟨_, rfl⟩
        have hdl : D.length + (leftOf r now).length = r.length := by rw [hD, List.length_map]; exact due_length r now
        have hdi : ∀ i, (h : i < r.length) → (i < D.length ↔ r[i].f1 ≤ now) := fun i h => by rw [hD, List.length_map]; exact due_iff HSRT.out now h
        have hda : ∀ i, (h : i < r.length) → i < D.length → D[i]? = some r[i].f0 := fun i h h2 => by rw [hD]; exact due_at h (by rw [hD, List.length_map] at h2; exact h2)
        rw [← hD] at S6
        obtain ⟨A9, c9, rfl, -, -⟩ := S6.row_str rfl
        have HS6 := Lib.hid S6
        have HDL := Lib.hid hdl
        have HDI := Lib.hid hdi
        have HDA := Lib.hid hda
        obtain ⟨E, hE⟩ : ∃ E, E = (leftOf r now).length := ⟨_, rfl⟩
        have hdl2 : D.length + E = r.length := by rw [hE]; exact hdl
        have hdle : D.length ≤ 300 := by omega
        have HE := Lib.hid hE
        have hsum : (D.length : Int) + E = r.length := by omega
        have hsumb : ((D.length : Int) + E == r.length) = true := beq_iff_eq.2 hsum
        have hEle : E ≤ 300 := by omega
        have HSUM := Lib.hid hsum
        clear S6 HS5 hD hdl hdi hda hE hdl2 hsum hsumb
        go_wp2_with fail
        refine (tbLen HS6.out.p2).mono ?_
        rintro en w7 ⟨rfl, rfl⟩
        rw [← HE.out]
        have hsum := HSUM.out
        go_wp2_with fail
        clear hsum
        go_loopw [46] (fun v46 wr => ∃ i : Nat, v46 = .int .i64 i ∧ i ≤ r.length ∧ Hid (Sat w wr (row 9 1 (.slice A9 D.length c9) D.length (D.map Value.string) * (tmb b (leftOf r now) * (row 36 2 (.slice A8 r.length c8) r.length (r.flatMap encT) * old w))))) (fun v46 _ => r.length - (RowKit.intOf v46).toNat)
        case atStart => exact ⟨0, rfl, by simp, HS6⟩
        case round =>
          clear HS6
          obtain ⟨i, rfl, hi, HSi⟩ := hrel
          by_cases hlt : i < r.length
          · obtain ⟨g8, e1, x0, x1⟩ := (HSi.out.p3).row_two hlt
            cases e1
            have hdi := HDI.out i hlt
            have hda := HDA.out i hlt
            obtain ⟨xk, hxk⟩ : ∃ xk, xk = r[i].f0 := ⟨_, rfl⟩
            obtain ⟨xt, hxt⟩ : ∃ xt, xt = r[i].f1 := ⟨_, rfl⟩
            rw [← hxk] at x0 hda
            rw [← hxt] at x1 hdi
            have HXK := Lib.hid hxk
            have HXT := Lib.hid hxt
            obtain ⟨xb, hxb⟩ : ∃ xb, xb = wr.heap.size := ⟨_, rfl⟩
            have S1 := HSi.out.alloc (.cells #[.string xk, .int .i64 xt] 36)
            rw [← hxb] at S1
            have HS1 := Lib.hid S1
            have HXB := Lib.hid hxb
            have HDAI := Lib.hid hda
            have HDII := Lib.hid hdi
            have hi2 : (i : Int) < r.length := by omega
            clear S1 hxb hxk hxt hda hdi
            go_upto_region 16 with (fail)
            rw [← HXB.out]
            clear x0 x1
            refine gen_w HS1.out ?_
            clear HS1 HXB HSi
            intro w3 S3
            obtain ⟨b0, b1, -⟩ := blk2 S3.blk
            have HS3 := Lib.hid S3
            by_cases hdue : i < D.length
            case' pos =>
              have hle := HDII.out.1 hdue
              have d1 : decide ((i : Int) < D.length) = true := decide_eq_true (by omega)
              have d1n : decide (i < D.length) = true := decide_eq_true hdue
              have d2 : decide (xt ≤ now) = true := decide_eq_true hle
              obtain ⟨g9, e1, y0⟩ := S3.p2.row_cells i (.string xk) (by rw [List.getElem?_map, HDAI.out hdue]; rfl)
              cases e1
              have hi3 : (i : Int) < D.length := by omega
              clear S3 hle hdue
              go_wp2_with fail
              go_quiet (fail)
            case' neg =>
              have hle : ¬ xt ≤ now := fun h => hdue (HDII.out.2 h)
              have d1 : decide ((i : Int) < D.length) = false := decide_eq_false (by omega)
              have d1n : decide (i < D.length) = false := decide_eq_false hdue
              have d2 : decide (xt ≤ now) = false := decide_eq_false hle
              clear S3 hle hdue
              go_wp2_with fail
              go_quiet (fail)
            all_goals
              go_wp2_with fail
              refine gen_w (HS3.out.drewN _) ?_
              clear HS3 b0 b1 HDAI HDII
              try clear y0 e1
              intro w4 S4
              obtain ⟨b0, b1, -⟩ := blk2 S4.blk
              cases i with
              | zero =>
                have HS5 := Lib.hid S4.drop1
                clear S4
                go_quiet (fail)
                go_wp2_with fail
                go_roundw
                case rel => exact ⟨1, by first | rfl | simp, by omega, Lib.hid (HS5.out.drewN _)⟩
                case measure => simp [RowKit.intOf]; omega
              | succ j =>
                have hj : j < r.length := by omega
                have hjj := List.pairwise_iff_getElem.1 HSRT.out j (j + 1) hj hlt (by omega)
                rw [ltT_iff] at hjj
                rw [← HXK.out, ← HXT.out] at hjj
                obtain ⟨g7, e7, z0, z1⟩ := (S4.p4).row_two hj
                cases e7
                obtain ⟨pk, hpk⟩ : ∃ pk, pk = r[j].f0 := ⟨_, rfl⟩
                obtain ⟨pt', hpt⟩ : ∃ pt', pt' = r[j].f1 := ⟨_, rfl⟩
                rw [← hpk] at z0
                rw [← hpt] at z1
                rw [← hpk, ← hpt] at hjj
                have HS5 := Lib.hid S4.drop1
                have hj2 : (j : Int) < r.length := by omega
                have hj0 : (0 : Int) ≤ (j : Int) := by omega
                have hw0 : IntKind.i64.wrap (j : Int) = (j : Int) := IntWalk.i64_in _ (by omega)
                have hw1 : IntKind.i64.wrap ((j : Int) + 1 - 1) = (j : Int) := by rw [show (j : Int) + 1 - 1 = (j : Int) from by omega]; exact hw0
                clear S4 hpk hpt hj
                by_cases hlt2 : pt' < xt
                case' pos =>
                  have d3 : decide (xt < pt') = false := decide_eq_false (by omega)
                  have d4 : (pt' == xt) = false := beq_eq_false_iff_ne.2 (by omega)
                  clear hjj hlt2
                  go_quiet (fail)
                case' neg =>
                  have heq : pt' = xt := by rcases hjj with h | ⟨h, _⟩ <;> omega
                  have hbl : Op.bytesLess pk.toList xk.toList = true := by
                    rw [bl_eq]
                    rcases hjj with h | ⟨_, h⟩
                    · exact absurd h hlt2
                    · exact decide_eq_true h
                  subst heq
                  clear hjj hlt2
                  go_quiet (fail)
                all_goals
                  go_wp2_with fail
                  go_roundw
                  case rel => exact ⟨j + 2, by first | rfl | (simp; omega), by omega, Lib.hid (HS5.out.drewN _)⟩
                  case measure => simp [RowKit.intOf]; omega
          · have hi2 : i = r.length := by omega
            subst hi2
            clear hlt hi
            have HLF := Lib.hid (fun x h => left_first (r := r) (now := now) (x := x) h)
            have HLD := Lib.hid (left_due (r := r) (now := now))
            obtain ⟨L, hL⟩ : ∃ L, L = leftOf r now := ⟨_, rfl⟩
            have hLL := HLD.out
            rw [← hL] at HSi HLF hLL
            have HLD2 := Lib.hid hLL
            have hle0 : leftOf L now = L := by
              have := dueLeft L now
              rw [hLL] at this
              simpa using this
            have HLE := Lib.hid hle0
            clear hL hLL hle0 HLD
            go_wp2_with fail
            refine (tbFirst HSi.out.p2).mono ?_
            rintro en w5 ⟨rfl, S5⟩
            have HS5 := Lib.hid S5
            clear S5 HSi
            cases L with
            | nil =>
              rw [show firstV [] = .tuple #[.agg #[.string ⟨#[]⟩, .int .i64 0], .bool false] from rfl]
              have HS6 := Lib.hid (HS5.out.alloc (.cells #[.string ⟨#[]⟩, .int .i64 0] 36)).drop1
              clear HS5
              go_wp2_with fail
              refine (tbDue HS6.out).mono ?_
              rintro en w6 ⟨v, rfl, S6⟩
              rw [HLD2.out] at S6
              obtain ⟨A, c, rfl, -, -⟩ := S6.row_str rfl
              have HS7 := Lib.hid S6.drop1
              clear S6 HS6
              go_wp2_with fail
              refine (aliveTm HS7.out).mono ?_
              rintro en w7 ⟨rfl, S7⟩
              have HS8 := Lib.hid S7.drop1.drop1.drop1.old1
              clear S7
              go_wp2_with fail
              go_ret
              exact ⟨rfl, HS8.out⟩
            | cons x t =>
              rw [show firstV (x :: t) = .tuple #[.agg #[.string x.f0, .int .i64 x.f1], .bool true] from rfl]
              have HS6 := Lib.hid (HS5.out.alloc (.cells #[.string x.f0, .int .i64 x.f1] 36)).drop1
              have d9 : decide (now < x.f1) = true := decide_eq_true (by have := HLF.out x rfl; omega)
              clear HS5
              go_wp2_with fail
              refine (tbDue HS6.out).mono ?_
              rintro en w6 ⟨v, rfl, S6⟩
              rw [HLD2.out] at S6
              obtain ⟨A, c, rfl, -, -⟩ := S6.row_str rfl
              have HS7 := Lib.hid S6.drop1
              clear S6 HS6
              go_wp2_with fail
              refine (aliveTm HS7.out).mono ?_
              rintro en w7 ⟨rfl, S7⟩
              have HS8 := Lib.hid S7.drop1.drop1.drop1.old1
              clear S7
              go_wp2_with fail
              go_ret
              exact ⟨rfl, HS8.out⟩
theorem dueTmWalk {w : World} {A0 : Option Addr} {c0 : Nat} {l : List Opt} (hC : Kd.C k28 w A0 l.length l) (hc : l.length ≤ c0) (_ : ∀ x ∈ l, (Lit.int .i64 x.f2).wf = true) (now : Int) (_ : (Lit.int .i64 now).wf = true) :
    Calls Try.prog 3 #[.slice A0 l.length c0, .int .i64 now] w fun en w' => en = .returned (.bool true) ∧ Below w.heap.size w w' := dueTm hC hc
end Go.Sl
