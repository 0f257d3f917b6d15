/-
  'mewslaw13.FreqLeast': the plain law, and the walk.
-/
import Derived.Test.YtgkjendknckibaaLawFqP
namespace Go.Sl
open Go.RowKit Go.Proofs Go.Proofs.YtgkjendknckibaaW.PrintWords Go.Proofs.Ytgkjendknckibaa.PFreq
set_option linter.unusedVariables false
set_option maxRecDepth 100000

/-- When a key was touched last, of the first k calls; -1: never. -/
def lastTo (l : List Opf) (key : ByteArray) : Nat → Int
  | 0 => -1
  | k + 1 => if h : k < l.length then (if l[k].f0 = 0 ∧ l[k].f1 = key then (k : Int) else lastTo l key k) else lastTo l key k
theorem lastTo_succ (l : List Opf) (key : ByteArray) (k : Nat) (h : k < l.length) : lastTo l key (k + 1) = if l[k].f0 = 0 ∧ l[k].f1 = key then (k : Int) else lastTo l key k := by rw [lastTo, dif_pos h]
theorem lastTo_bounds (l : List Opf) (key : ByteArray) : ∀ k, -1 ≤ lastTo l key k ∧ lastTo l key k < k
  | 0 => by simp [lastTo]
  | k + 1 => by
    have ih := lastTo_bounds l key k
    rw [lastTo]
    split
    · split <;> omega
    · omega
theorem fso_last (l : List Opf) : ∀ k, k ≤ l.length → (fso l k).1.Pairwise (fun a b => lastTo l a.k k < lastTo l b.k k)
  | 0, _ => by simp [fso]
  | k + 1, h => by
    have ih := fso_last l k (by omega)
    have hk : k < l.length := by omega
    rw [fso_succ l k hk]
    unfold fstep
    by_cases h0 : l[k].f0 = 0
    · rw [if_pos h0]
      simp only [touchM]
      refine List.pairwise_append.2 ⟨?_, by simp, fun a ha b hb => ?_⟩
      · refine List.Pairwise.imp_of_mem ?_ (ih.filter _)
        intro a b ha hb hab
        rw [lastTo_succ l _ k hk, lastTo_succ l _ k hk, if_neg (fun hh => lessM_key a ha hh.2.symm), if_neg (fun hh => lessM_key b hb hh.2.symm)]
        exact hab
      · rw [List.mem_singleton] at hb
        subst hb
        rw [lastTo_succ l _ k hk, lastTo_succ l _ k hk, if_neg (fun hh => lessM_key a ha hh.2.symm), if_pos ⟨h0, rfl⟩]
        have := (lastTo_bounds l a.k k).2
        omega
    · have other : ∀ key, lastTo l key (k + 1) = lastTo l key k := fun key => by rw [lastTo_succ l _ k hk, if_neg (fun hh => h0 hh.1)]
      rw [if_neg h0]
      by_cases h1 : l[k].f0 = 1
      · rw [if_pos h1]
        refine List.Pairwise.imp ?_ (ih.filter _)
        intro a b hab
        rw [other, other]; exact hab
      · rw [if_neg h1]
        refine List.pairwise_map.2 (ih.imp ?_)
        intro a b hab
        show lastTo l a.k (k + 1) < lastTo l b.k (k + 1)
        rw [other, other]; exact hab
theorem cnt_self {es : List Mk} {now : Int} (ho : FOk es now) {m : Mk} (hm : m ∈ es) : cntOf es m.k = m.c := by unfold cntOf; rw [findM_self ho hm]; rfl
theorem mem_row {es : List Mk} {now : Int} (ho : FOk es now) {n : Int} {x : ByteArray} (h : x ∈ rowOf es n) : cntOf es x = n := by
  obtain ⟨m, hm, rfl⟩ := List.mem_map.1 h
  rw [cnt_self ho (List.mem_filter.1 hm).1]
  have := (List.mem_filter.1 hm).2
  simpa using this
theorem mem_up {es : List Mk} {now : Int} (ho : FOk es now) : ∀ {n : Nat} {x : ByteArray}, x ∈ upTo (rowOf es) n → cntOf es x < n
  | 0, x, h => by simp [upTo] at h
  | n + 1, x, h => by
    rw [upTo] at h
    rcases List.mem_append.1 h with h | h
    · have := mem_up ho h; omega
    · have := mem_row ho h; omega
theorem all_pair {es : List Mk} {now : Int} (ho : FOk es now) {P : ByteArray → ByteArray → Prop} (hp : es.Pairwise fun a b => P a.k b.k) : ∀ n : Nat, (upTo (rowOf es) n).Pairwise fun a b => cntOf es a < cntOf es b ∨ (cntOf es a = cntOf es b ∧ P a b)
  | 0 => by simp [upTo]
  | n + 1 => by
    rw [upTo]
    refine List.pairwise_append.2 ⟨all_pair ho hp n, ?_, fun a ha b hb => ?_⟩
    · unfold rowOf
      refine List.pairwise_map.2 (List.Pairwise.imp_of_mem ?_ (hp.filter _))
      intro a b ha hb hab
      right
      refine ⟨?_, hab⟩
      rw [cnt_self ho (List.mem_filter.1 ha).1, cnt_self ho (List.mem_filter.1 hb).1]
      have h1 := (List.mem_filter.1 ha).2
      have h2 := (List.mem_filter.1 hb).2
      simp only [decide_eq_true_eq] at h1 h2
      rw [h1, h2]
    · left
      rw [mem_row ho hb]; exact mem_up ho ha
theorem all_mem {es : List Mk} {now : Int} (ho : FOk es now) {x : ByteArray} (h : x ∈ allOf es) : 1 ≤ cntOf es x ∧ cntOf es x ≤ 255 := by
  obtain ⟨m, hm, rfl⟩ := List.mem_map.1 ((all_perm ho).mem_iff.1 h)
  rw [cnt_self ho hm]
  have := ho.pos m hm
  exact ⟨this.1, this.2.1⟩

set_option maxHeartbeats 4000000 in
/-- 'last'. -/
theorem last_calls {w : World} {A0 : Option Addr} {c0 : Nat} {l : List Opf} {key : ByteArray} (hr0 : Kd.C k64 w A0 l.length l) (hc0 : l.length ≤ c0) (hs : l.length ≤ 400) :
    Calls Try.prog 42 #[.slice A0 l.length c0, .string key] w fun en w' => en = .returned (.int .i64 (lastTo l key l.length)) ∧ Below w.heap.size w w' := by
  have HR := Lib.hid hr0
  have HC := Lib.hid hc0
  have HS := Lib.hid (Sat.start w)
  clear hr0 hc0
  go_enter Try.func42, Try.ntmps42
  go_wp2_with fail
  go_loopw [5, 10] (fun v5 v10 wr => ∃ i : Nat, v10 = .int .i64 i ∧ i ≤ l.length ∧ v5 = .int .i64 (lastTo l key i) ∧ Hid (Sat w wr (old w))) (fun _ v10 _ => l.length - (RowKit.intOf v10).toNat)
  case atStart => exact ⟨0, rfl, by omega, rfl, HS⟩
  case round =>
    clear HS
    obtain ⟨i, rfl, hi, rfl, HSi⟩ := hrel
    by_cases hlt : i < l.length
    · obtain ⟨ad, e1, hx0, hx1⟩ := at_T64 HR.out (i : Int) (by omega) (by omega)
      cases e1
      have erd : rd_T64 l (i : Int) = l[i] := by unfold rd_T64; simp [List.getD_eq_getElem?_getD, hlt]
      rw [Int.toNat_natCast, erd] at hx0 hx1
      have hbel := HSi.out.old1
      replace hx0 := (hbel.cell (World.block_lt_of_cell? w _ hx0)).trans hx0
      replace hx1 := (hbel.cell (World.block_lt_of_cell? w _ hx1)).trans hx1
      clear hbel erd
      have HLS := Lib.hid (lastTo_succ l key i hlt)
      generalize hkd : l[i].f0 = kd at *
      generalize hky : l[i].f1 = ky at *
      clear hkd hky
      have HS2 := Lib.hid ((HSi.out.alloc (.cells #[.int .i64 kd, .string ky] 64)).drop1)
      by_cases k0 : kd = 0
      · subst k0
        by_cases k1 : ky = key
        · subst k1
          rw [if_pos ⟨rfl, rfl⟩] at HLS
          have e3 : (ky.toList == ky.toList) = true := by simp
          go_wp2_with fail
          go_roundw
          case rel => exact ⟨i + 1, by simp, by omega, by rw [HLS.out], HS2⟩
          case measure => simp [RowKit.intOf]; omega
        · rw [if_neg (fun h => k1 h.2)] at HLS
          have e3 : (ky.toList == key.toList) = false := beq_eq_false_iff_ne.2 (fun h => k1 (toList_inj.1 h))
          clear k1
          go_wp2_with fail
          go_roundw
          case rel => exact ⟨i + 1, by simp, by omega, by rw [HLS.out], HS2⟩
          case measure => simp [RowKit.intOf]; omega
      · rw [if_neg (fun h => k0 h.1)] at HLS
        have e3 : (kd == 0) = false := beq_eq_false_iff_ne.2 k0
        clear k0
        go_wp2_with fail
        go_roundw
        case rel => exact ⟨i + 1, by simp, by omega, by rw [HLS.out], HS2⟩
        case measure => simp [RowKit.intOf]; omega
    · have hi2 : i = l.length := by omega
      subst hi2
      go_wp2_with fail
      go_ret
      exact ⟨rfl, HSi.out.old1⟩
set_option maxHeartbeats 16000000 in
theorem leastFq {w : World} {A0 : Option Addr} {c0 : Nat} {l : List Opf} (hr0 : Kd.C k64 w A0 l.length l) (hc0 : l.length ≤ c0) :
    Calls Try.prog 9 #[.slice A0 l.length c0] w fun en w' => en = .returned (.bool true) ∧ Below w.heap.size w w' := by
  have hmax : l.length ≤ 9223372036854775807 := hr0.2.1
  have HR := Lib.hid hr0
  have HC := Lib.hid hc0
  cases hf1 : farB l with
  | true =>
    have HF := Lib.hid ((far_f hmax).trans (by rw [hf1]))
    clear hf1 hr0 hc0
    go_enter Try.func9, Try.ntmps9
    go_wp2_with fail
    refine (mewslaw13_far.calls (l.length + 1) A0 c0 l true w HR.out HC.out HF.out).mono ?_
    rintro en w1 ⟨rfl, hb⟩
    have HS1 := Lib.hid ((Sat.start w).below hb)
    clear hb
    go_wp2_with fail
    refine (aliveFq HS1.out).mono ?_
    rintro en w5 ⟨rfl, S5⟩
    have HS5 := Lib.hid S5.old1
    clear S5
    go_wp2_with fail
    go_ret
    exact ⟨rfl, HS5.out⟩
  | false =>
    have hlen : l.length ≤ 400 := by
      unfold farB at hf1
      have := (Bool.or_eq_false_iff.1 hf1).2
      simpa using this
    have HF := Lib.hid ((far_f hmax).trans (by rw [hf1]))
    clear hr0 hc0 hf1
    go_enter Try.func9, Try.ntmps9
    go_wp2_with fail
    refine (mewslaw13_far.calls (l.length + 1) A0 c0 l false w HR.out HC.out HF.out).mono ?_
    rintro en w1 ⟨rfl, hb⟩
    have HS1 := Lib.hid ((Sat.start w).below hb)
    clear hb
    go_wp2_with fail
    refine (bkNew HS1.out).mono ?_
    rintro en w2 ⟨b, rfl, S2⟩
    have HS2 : Hid (Sat w w2 (bk b (fso l 0).1 (fso l 0).2 * old w)) := Lib.hid S2
    clear S2 HS1
    go_wp2_with fail
    go_loopw [17] (fun v17 wr => ∃ i : Nat, v17 = .int .i64 i ∧ i ≤ l.length ∧ Hid (Sat w wr (bk b (fso l i).1 (fso l i).2 * old w))) (fun v17 _ => l.length - (RowKit.intOf v17).toNat)
    case atStart => exact ⟨0, rfl, by simp, HS2⟩
    case round =>
      clear HS2
      obtain ⟨i, rfl, hi, HSr⟩ := hrel
      by_cases hlt : i < l.length
      · obtain ⟨ad, e1, hx0, hx1⟩ := at_T64 HR.out (i : Int) (by omega) (by omega)
        cases e1
        have erd : rd_T64 l (i : Int) = l[i] := by unfold rd_T64; simp [List.getD_eq_getElem?_getD, hlt]
        rw [Int.toNat_natCast, erd] at hx0 hx1
        have hbel := HSr.out.drop1.old1
        replace hx0 := (hbel.cell (World.block_lt_of_cell? w _ hx0)).trans hx0
        replace hx1 := (hbel.cell (World.block_lt_of_cell? w _ hx1)).trans hx1
        clear hbel erd
        have hnow := fso_now l i hi
        have HNW := Lib.hid hnow
        have HST := Lib.hid (fso_succ l i hlt)
        obtain ⟨kd, hkd⟩ : ∃ kd, kd = l[i].f0 := ⟨_, rfl⟩
        obtain ⟨ky, hky⟩ : ∃ ky, ky = l[i].f1 := ⟨_, rfl⟩
        rw [← hkd] at hx0
        rw [← hky] at hx1
        have HKD := Lib.hid hkd
        have HKY := Lib.hid hky
        have HAL := Lib.hid ((HSr.out.alloc (.cells #[.int .i64 kd, .string ky] 64)).drop1)
        clear hkd hky hnow HSr
        by_cases k0 : kd = 0
        case' pos =>
          have d0 : (kd == 0) = true := beq_iff_eq.2 k0
          have HST2 : Hid (fso l (i + 1) = (touchM (fso l i).1 ky ((fso l i).2 + 1), (fso l i).2 + 1)) := Lib.hid (by rw [HST.out]; unfold fstep; rw [if_pos (HKD.out ▸ k0), ← HKY.out])
          clear k0
          go_wp2_with fail
          refine (bkTouch (by have := HNW.out; omega) HAL.out).mono ?_
          rintro en w3 ⟨rfl, S3⟩
          have HS3 : Hid (Sat w w3 (bk b (fso l (i + 1)).1 (fso l (i + 1)).2 * old w)) := Lib.hid (by rw [HST2.out]; exact S3)
          clear S3 HAL HST2
          go_wp2_with fail
        case' neg =>
          have d0 : (kd == 0) = false := beq_eq_false_iff_ne.2 k0
          by_cases k1 : kd = 1
          case' pos =>
            have d1 : (kd == 1) = true := beq_iff_eq.2 k1
            have HST2 : Hid (fso l (i + 1) = (lessM (fso l i).1 ky, (fso l i).2)) := Lib.hid (by rw [HST.out]; unfold fstep; rw [if_neg (HKD.out ▸ k0), if_pos (HKD.out ▸ k1), ← HKY.out])
            clear k0 k1
            go_wp2_with fail
            refine (bkDrop HAL.out).mono ?_
            rintro en w3 ⟨rfl, S3⟩
            have HS3 : Hid (Sat w w3 (bk b (fso l (i + 1)).1 (fso l (i + 1)).2 * old w)) := Lib.hid (by rw [HST2.out]; exact S3)
            clear S3 HAL HST2
            go_wp2_with fail
          case' neg =>
            have d1 : (kd == 1) = false := beq_eq_false_iff_ne.2 k1
            have HST2 : Hid (fso l (i + 1) = ((fso l i).1.map halfM, (fso l i).2)) := Lib.hid (by rw [HST.out]; unfold fstep; rw [if_neg (HKD.out ▸ k0), if_neg (HKD.out ▸ k1)])
            clear k0 k1
            go_wp2_with fail
            refine (bkHalve HAL.out).mono ?_
            rintro en w3 ⟨rfl, S3⟩
            have HS3 : Hid (Sat w w3 (bk b (fso l (i + 1)).1 (fso l (i + 1)).2 * old w)) := Lib.hid (by rw [HST2.out]; exact S3)
            clear S3 HAL HST2
            go_wp2_with fail
        all_goals
          go_roundw
          case rel => exact ⟨i + 1, by simp, by omega, HS3⟩
          case measure => simp [RowKit.intOf]; omega
      · have hi2 : i = l.length := by omega
        subst hi2
        clear hlt hi
        obtain ⟨es, hes⟩ : ∃ es, es = (fso l l.length).1 := ⟨_, rfl⟩
        obtain ⟨now, hnw⟩ : ∃ now, now = (fso l l.length).2 := ⟨_, rfl⟩
        have hnow := fso_now l l.length (Nat.le_refl _)
        have hla := fso_last l l.length (Nat.le_refl _)
        rw [← hes, ← hnw] at HSr
        rw [← hnw] at hnow
        rw [← hes] at hla
        obtain ⟨mb0, rb0, hok, -⟩ := HSr.out.bk_open
        obtain ⟨L, hL⟩ : ∃ L, L = allOf es := ⟨_, rfl⟩
        have hll : L.length = es.length := by rw [hL, allOf_length hok]
        have hel : L.length ≤ 1000 := by have := hok.len; omega
        have hpr := all_pair (P := fun a b => lastTo l a l.length < lastTo l b l.length) hok hla 256
        have hpr2 : L.Pairwise fun a b => cntOf es a < cntOf es b ∨ (cntOf es a = cntOf es b ∧ lastTo l a l.length < lastTo l b l.length) := by rw [hL]; exact hpr
        have hme : ∀ x ∈ L, 1 ≤ cntOf es x ∧ cntOf es x ≤ 255 := fun x hx => all_mem hok (hL ▸ hx)
        have HOK := Lib.hid hok
        have HL := Lib.hid hL
        have HLL := Lib.hid hll
        have HPR := Lib.hid hpr2
        have HME := Lib.hid hme
        clear hes hnw hnow hla hok hL hll hpr hpr2 hme
        go_wp2_with fail
        refine (bkAll HSr.out).mono ?_
        rintro en w5 ⟨v, rfl, S5⟩
        rw [← HL.out] at S5
        obtain ⟨A, c, rfl, hc, hC⟩ := S5.row_str rfl
        have HS5 := Lib.hid S5
        clear S5 HSr hc hC
        go_wp2_with fail
        go_loopw [42] (fun v42 wr => ∃ i : Nat, v42 = .int .i64 i ∧ i ≤ L.length ∧ Hid (Sat w wr (row 9 1 (.slice A L.length c) L.length (L.map Value.string) * (bk b es now * old w)))) (fun v42 _ => L.length - (RowKit.intOf v42).toNat)
        case atStart => exact ⟨0, rfl, by simp, HS5⟩
        case round =>
          clear HS5
          obtain ⟨i, rfl, hi, HSi⟩ := hrel
          by_cases hlt : i < L.length
          · obtain ⟨g, e1, hx⟩ := HSi.out.row_cells i (.string L[i]) (by simp [hlt])
            subst e1
            have hmk := HME.out L[i] (List.getElem_mem hlt)
            obtain ⟨K, hK⟩ : ∃ K, K = L[i] := ⟨_, rfl⟩
            obtain ⟨C, hC⟩ : ∃ C, C = cntOf es K := ⟨_, rfl⟩
            rw [← hK] at hx hmk
            rw [← hC] at hmk
            have HK := Lib.hid hK
            have HCC := Lib.hid hC
            have d1 : decide (C < 1) = false := decide_eq_false (by omega)
            have d2 : decide (255 < C) = false := decide_eq_false (by omega)
            clear hK hC hmk
            cases i with
            | zero =>
              go_wp2_with fail
              refine (bkCount HSi.out.p2).mono ?_
              rintro en w6 ⟨rfl, rfl⟩
              rw [← HCC.out]
              go_wp2_with fail
              refine (bkCount HSi.out.p2).mono ?_
              rintro en w6 ⟨rfl, rfl⟩
              rw [← HCC.out]
              go_wp2_with fail
              go_roundw
              case rel => exact ⟨1, by simp, by omega, HSi⟩
              case measure => simp [RowKit.intOf]; omega
            | succ j =>
              obtain ⟨g', e1, hy⟩ := HSi.out.row_cells j (.string L[j]) (by rw [List.getElem?_map, List.getElem?_eq_getElem (by omega)]; rfl)
              cases e1
              have hpr := List.pairwise_iff_getElem.1 HPR.out j (j + 1) (by omega) hlt (by omega)
              obtain ⟨P, hP⟩ : ∃ P, P = L[j] := ⟨_, rfl⟩
              obtain ⟨D, hD⟩ : ∃ D, D = cntOf es P := ⟨_, rfl⟩
              rw [← hP] at hy hpr
              rw [← HK.out, ← HCC.out, ← hD] at hpr
              have HDD := Lib.hid hD
              clear hP hD
              by_cases hcd : D < C
              · have d3 : decide (C < D) = false := decide_eq_false (by omega)
                have d4 : (D == C) = false := beq_eq_false_iff_ne.2 (by omega)
                clear hpr hcd
                go_wp2_with fail
                refine (bkCount HSi.out.p2).mono ?_
                rintro en w6 ⟨rfl, rfl⟩
                rw [← HCC.out]
                go_wp2_with fail
                refine (bkCount HSi.out.p2).mono ?_
                rintro en w6 ⟨rfl, rfl⟩
                rw [← HCC.out]
                go_wp2_with fail
                refine (bkCount HSi.out.p2).mono ?_
                rintro en w6 ⟨rfl, rfl⟩
                rw [← HDD.out]
                go_wp2_with fail
                refine (bkCount HSi.out.p2).mono ?_
                rintro en w6 ⟨rfl, rfl⟩
                rw [← HCC.out]
                go_wp2_with fail
                refine (bkCount HSi.out.p2).mono ?_
                rintro en w6 ⟨rfl, rfl⟩
                rw [← HDD.out]
                go_wp2_with fail
                refine (bkCount HSi.out.p2).mono ?_
                rintro en w6 ⟨rfl, rfl⟩
                rw [← HCC.out]
                go_wp2_with fail
                go_roundw
                case rel => exact ⟨j + 2, by simp; omega, by omega, HSi⟩
                case measure => simp [RowKit.intOf]; omega
              · have hcd2 : D = C := by rcases hpr with h | h <;> omega
                have hla : lastTo l P l.length < lastTo l K l.length := by
                  rcases hpr with h | h
                  · omega
                  · exact h.2
                clear hpr hcd
                subst hcd2
                obtain ⟨la, hlp⟩ : ∃ la, la = lastTo l P l.length := ⟨_, rfl⟩
                obtain ⟨lb, hlk⟩ : ∃ lb, lb = lastTo l K l.length := ⟨_, rfl⟩
                rw [← hlp, ← hlk] at hla
                have d3 : decide (lb ≤ la) = false := decide_eq_false (by omega)
                have HLP := Lib.hid hlp
                have HLK := Lib.hid hlk
                clear hlp hlk hla
                go_wp2_with fail
                refine (bkCount HSi.out.p2).mono ?_
                rintro en w6 ⟨rfl, rfl⟩
                rw [← HCC.out]
                go_wp2_with fail
                refine (bkCount HSi.out.p2).mono ?_
                rintro en w6 ⟨rfl, rfl⟩
                rw [← HCC.out]
                go_wp2_with fail
                refine (bkCount HSi.out.p2).mono ?_
                rintro en w6 ⟨rfl, rfl⟩
                rw [← HDD.out]
                go_wp2_with fail
                refine (bkCount HSi.out.p2).mono ?_
                rintro en w6 ⟨rfl, rfl⟩
                rw [← HCC.out]
                go_wp2_with fail
                refine (bkCount HSi.out.p2).mono ?_
                rintro en w6 ⟨rfl, rfl⟩
                rw [← HDD.out]
                go_wp2_with fail
                refine (bkCount HSi.out.p2).mono ?_
                rintro en w6 ⟨rfl, rfl⟩
                rw [← HCC.out]
                go_wp2_with fail
                refine (last_calls (Kd.C_below HR.out HSi.out.drop1.drop1.old1) HC.out hlen).mono ?_
                rintro en w7 ⟨rfl, hb⟩
                rw [← HLP.out]
                have HS7 := Lib.hid (HSi.out.below hb)
                clear hb HSi
                go_wp2_with fail
                refine (last_calls (Kd.C_below HR.out HS7.out.drop1.drop1.old1) HC.out hlen).mono ?_
                rintro en w8 ⟨rfl, hb⟩
                rw [← HLK.out]
                have HS8 := Lib.hid (HS7.out.below hb)
                clear hb HS7
                go_wp2_with fail
                go_roundw
                case rel => exact ⟨j + 2, by simp; omega, by omega, HS8⟩
                case measure => simp [RowKit.intOf]; omega
          · have hi2 : i = L.length := by omega
            subst hi2
            clear hlt
            go_wp2_with fail
            refine (bkLeast HSi.out.p2).mono ?_
            rintro en w6 ⟨rfl, S6⟩
            rw [← HL.out]
            have HS6 := Lib.hid S6.p2
            clear S6 HSi
            cases L with
            | nil =>
              rw [show ([] : List ByteArray).headD ⟨#[]⟩ = ⟨#[]⟩ from rfl, show (!([] : List ByteArray).isEmpty) = false from rfl]
              go_wp2_with fail
              refine (bkLen HS6.out.p2).mono ?_
              rintro en w7 ⟨rfl, rfl⟩
              rw [← HLL.out]
              go_wp2_with fail
              refine (aliveFq HS6.out).mono ?_
              rintro en w8 ⟨rfl, S8⟩
              have HS8 := Lib.hid S8.drop1.drop1.old1
              clear S8
              go_wp2_with fail
              go_ret
              exact ⟨rfl, HS8.out⟩
            | cons a t =>
              rw [show (a :: t).headD ⟨#[]⟩ = a from rfl, show (!(a :: t).isEmpty) = true from rfl]
              obtain ⟨g, e1, hx⟩ := HS6.out.row_cells 0 (.string a) rfl
              subst e1
              go_wp2_with fail
              refine (bkLen HS6.out.p2).mono ?_
              rintro en w7 ⟨rfl, rfl⟩
              rw [← HLL.out]
              go_wp2_with fail
              refine (aliveFq HS6.out).mono ?_
              rintro en w8 ⟨rfl, S8⟩
              have HS8 := Lib.hid S8.drop1.drop1.old1
              clear S8
              go_wp2_with fail
              go_ret
              exact ⟨rfl, HS8.out⟩
theorem leastFqWalk {w : World} {A0 : Option Addr} {c0 : Nat} {l : List Opf} (hC : Kd.C k64 w A0 l.length l) (hc : l.length ≤ c0) (_ : ∀ x ∈ l, True) :
    Calls Try.prog 9 #[.slice A0 l.length c0] w fun en w' => en = .returned (.bool true) ∧ Below w.heap.size w w' := leastFq hC hc
end Go.Sl
