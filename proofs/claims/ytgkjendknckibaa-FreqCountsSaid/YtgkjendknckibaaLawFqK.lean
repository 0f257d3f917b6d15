/-
  'mewslaw13.FreqCounts': the plain law, and the walk.
-/
import Derived.Test.YtgkjendknckibaaLawFqW
import Derived.Test.YtgkjendknckibaaOpen
import Derived.KernelRfl
namespace Go.Sl
open Go.RowKit Go.Proofs Go.Proofs.YtgkjendknckibaaW.PrintWords Go.Proofs.Ytgkjendknckibaa.PFreq
set_option linter.unusedVariables false
set_option maxRecDepth 100000
open Go.Proofs.YtgkjendknckibaaW.PrintMore in
attribute [local go_sem] min2_int min_two

theorem find_less {es : List Mk} {key k : ByteArray} (h : k ≠ key) : findM (lessM es key) k = findM es k := by
  unfold findM lessM
  rw [List.find?_filter]
  congr 1
  funext m
  by_cases e : m.k = k
  · simp [e, h]
  · simp [e]
theorem cnt_touch (es : List Mk) (key k : ByteArray) (t : Int) : cntOf (touchM es key t) k = if k = key then upC (cntOf es key) else cntOf es k := by
  by_cases e : k = key
  · subst e
    rw [if_pos rfl]
    have h0 : ∀ c, findM (lessM es k ++ [⟨k, c, t⟩]) k = some ⟨k, c, t⟩ := by
      intro c
      unfold findM
      rw [List.find?_append]
      have : (lessM es k).find? (fun m => decide (m.k = k)) = none := List.find?_eq_none.2 fun m hm => by
        have := lessM_key m hm
        simpa using this
      rw [this]; simp
    show ((findM (lessM es k ++ [⟨k, upC (cntOf es k), t⟩]) k).map (·.c)).getD 0 = _
    rw [h0]; rfl
  · rw [if_neg e]
    have h0 : ∀ c, findM (lessM es key ++ [⟨key, c, t⟩]) k = findM es k := by
      intro c
      have := find_less (es := es) e
      unfold findM at this ⊢
      rw [List.find?_append, this, List.find?_cons_of_neg (by simp; exact fun h => e h.symm)]
      simp
    show ((findM (lessM es key ++ [⟨key, upC (cntOf es key), t⟩]) k).map (·.c)).getD 0 = _
    rw [h0]; rfl
/-- The keys touched one by one. -/
def tks : List ByteArray → Nat → List Mk
  | _, 0 => []
  | keys, i + 1 => if h : i < keys.length then touchM (tks keys i) keys[i] ((i : Int) + 1) else tks keys i
theorem tks_succ (keys : List ByteArray) (i : Nat) (h : i < keys.length) : tks keys (i + 1) = touchM (tks keys i) keys[i] ((i : Int) + 1) := by rw [tks, dif_pos h]
def times (keys : List ByteArray) (k : ByteArray) (j : Nat) : Nat := ((keys.take j).filter fun x => decide (x = k)).length
theorem times_succ (keys : List ByteArray) (k : ByteArray) (j : Nat) (h : j < keys.length) : times keys k (j + 1) = times keys k j + if keys[j] = k then 1 else 0 := by
  unfold times
  rw [List.take_succ_eq_append_getElem h, List.filter_append, List.length_append]
  by_cases e : keys[j] = k <;> simp [e]
theorem times_le (keys : List ByteArray) (k : ByteArray) (j : Nat) : times keys k j ≤ j := by
  unfold times
  have h1 := List.length_filter_le (fun x => decide (x = k)) (keys.take j)
  have h2 := List.length_take_le j keys
  omega
theorem tks_cnt (keys : List ByteArray) : ∀ i, i ≤ keys.length → i ≤ 200 → ∀ k, cntOf (tks keys i) k = times keys k i
  | 0, _, _, k => by simp [tks, times, cntOf, findM]
  | i + 1, h, h2, k => by
    have ih := tks_cnt keys i (by omega) (by omega)
    have hb := times_le keys keys[i] i
    rw [tks_succ keys i (by omega), cnt_touch, times_succ keys k i (by omega), ih, ih]
    by_cases e : k = keys[i]
    · subst e
      rw [if_pos rfl, if_pos rfl]
      unfold upC
      rw [if_neg (by omega)]; omega
    · rw [if_neg e, if_neg (fun h => e h.symm)]; rfl
/-- One key touched over and over. -/
def again (es : List Mk) (key : ByteArray) (now : Int) : Nat → List Mk
  | 0 => es
  | j + 1 => touchM (again es key now j) key (now + j + 1)
theorem again_cnt (es : List Mk) (key : ByteArray) (now : Int) (h0 : 0 ≤ cntOf es key) (h1 : cntOf es key ≤ 255) : ∀ j, cntOf (again es key now j) key = if 255 < cntOf es key + (j : Int) then 255 else cntOf es key + (j : Int)
  | 0 => by rw [again, if_neg (by omega)]; omega
  | j + 1 => by
    rw [again, cnt_touch, if_pos rfl, again_cnt es key now h0 h1 j]
    unfold upC
    by_cases e : 255 < cntOf es key + (j : Int)
    · rw [if_pos e, if_pos (by omega), if_pos (by omega)]
    · rw [if_neg e]
      by_cases e2 : 255 < cntOf es key + (j : Int) + 1
      · rw [if_pos e2, if_pos (by omega)]
      · rw [if_neg e2, if_neg (by omega)]; omega
set_option maxHeartbeats 8000000 in
theorem countsFq {w : World} {A0 : Option Addr} {c0 : Nat} {keys : List ByteArray} {n : Int} (hr0 : Kd.C Kd.string w A0 keys.length keys) (hc0 : keys.length ≤ c0) (hn : (Lit.int .i64 n).wf = true) :
    Calls Try.prog 7 #[.slice A0 keys.length c0, .int .i64 n] w fun en w' => en = .returned (.bool true) ∧ Below w.heap.size w w' := by
  have hmax : keys.length ≤ 9223372036854775807 := hr0.2.1
  have HR := Lib.hid hr0
  have HC := Lib.hid hc0
  have HS := Lib.hid (Sat.start w)
  by_cases hk : 50 < keys.length
  · have hk1 : decide ((50 : Int) < keys.length) = true := decide_eq_true (by omega)
    clear hr0 hc0 hn
    go_enter Try.func7, Try.ntmps7
    go_wp2_with fail
    refine (aliveFq HS.out).mono ?_
    rintro en w5 ⟨rfl, S5⟩
    have HS5 := Lib.hid S5.old1
    clear S5
    go_wp2_with fail
    go_ret
    exact ⟨rfl, HS5.out⟩
  · have hk1 : decide ((50 : Int) < keys.length) = false := decide_eq_false (by omega)
    have hk2 : keys.length ≤ 50 := by omega
    clear hr0 hk hmax
    go_enter Try.func7, Try.ntmps7
    go_wp2_with fail
    refine (bkNew HS.out).mono ?_
    rintro en w1 ⟨b, rfl, S1⟩
    have HS1 : Hid (Sat w w1 (bk b (tks keys 0) 0 * old w)) := Lib.hid S1
    clear S1 HS
    go_wp2_with fail
    obtain ⟨N, hN, eN⟩ : ∃ N : Nat, N < 300 ∧ wrap64 ((IntKind.u64.wrap n).tmod 300) = (N : Int) := by
      have h0 : 0 ≤ IntKind.u64.wrap n := by
        rw [show IntKind.u64.wrap n = n % 18446744073709551616 from by simp [IntKind.wrap, IntKind.bits, IntKind.signed]]; omega
      rw [Int.tmod_eq_emod_of_nonneg h0]
      refine ⟨((IntKind.u64.wrap n) % 300).toNat, by omega, ?_⟩
      unfold wrap64; omega
    rw [eN]
    clear eN hn
    go_loopw [23] (fun v23 wr => ∃ i : Nat, v23 = .int .i64 i ∧ i ≤ keys.length ∧ Hid (Sat w wr (bk b (tks keys i) i * old w))) (fun v23 _ => keys.length - (RowKit.intOf v23).toNat)
    case atStart => exact ⟨0, rfl, by omega, HS1⟩
    case round =>
      clear HS1
      obtain ⟨i, rfl, hi, HSi⟩ := hrel
      by_cases hlt : i < keys.length
      · obtain ⟨ad, e1, hx⟩ := Kd.at_string HR.out (i : Int) (by omega) (by omega)
        subst e1
        rw [rdOf_at _ _ _ hlt, Int.toNat_natCast] at hx
        have hbel := HSi.out.drop1.old1
        replace hx := (hbel.cell (World.block_lt_of_cell? w _ hx)).trans hx
        clear hbel
        obtain ⟨K, hK⟩ : ∃ K, K = keys[i] := ⟨_, rfl⟩
        rw [← hK] at hx
        have HK := Lib.hid hK
        clear hK
        by_cases hkl : 200 < K.size
        · have hk3 : decide ((200 : Int) < K.size) = true := decide_eq_true (by omega)
          go_wp2_with fail
          refine (aliveFq HSi.out.drop1).mono ?_
          rintro en w5 ⟨rfl, S5⟩
          have HS5 := Lib.hid S5.old1
          clear S5
          go_wp2_with fail
          go_ret
          exact ⟨rfl, HS5.out⟩
        · have hk3 : decide ((200 : Int) < K.size) = false := decide_eq_false (by omega)
          clear hkl
          go_wp2_with fail
          go_loop [8, 37] (fun v8 v37 => ∃ j : Nat, v37 = .int .i64 j ∧ j ≤ i + 1 ∧ v8 = .int .i64 (times keys K j)) (fun _ v37 => i + 1 - (RowKit.intOf v37).toNat)
          case atStart => exact ⟨0, rfl, by omega, rfl⟩
          case round =>
            obtain ⟨j, rfl, hj, rfl⟩ := hrel
            by_cases hjl : j < i + 1
            · have hjk : j < keys.length := by omega
              obtain ⟨ad', e1, hy⟩ := Kd.at_string HR.out (j : Int) (by omega) (by omega)
              cases e1
              rw [rdOf_at _ _ _ hjk, Int.toNat_natCast] at hy
              have hbel := HSi.out.drop1.old1
              replace hy := (hbel.cell (World.block_lt_of_cell? w _ hy)).trans hy
              clear hbel
              have hts := times_succ keys K j hjk
              have HTS := Lib.hid hts
              have htl := times_le keys K j
              generalize hkj : keys[j] = y at *
              clear hts hkj
              by_cases e : y = K
              · subst e
                rw [if_pos rfl] at HTS
                go_wp2_with fail
                go_round
                case rel => exact ⟨j + 1, by simp, by omega, by rw [HTS.out]; simp⟩
                case measure => simp [RowKit.intOf]; omega
              · have e2 : ¬ y.toList = K.toList := fun h => e (toList_inj.1 h)
                rw [if_neg e] at HTS
                have e3 : (y.toList == K.toList) = false := beq_eq_false_iff_ne.2 e2
                clear e e2
                go_wp2_with fail
                go_round
                case rel => exact ⟨j + 1, by simp, by omega, by rw [HTS.out]; simp⟩
                case measure => simp [RowKit.intOf]; omega
            · have hj2 : j = i + 1 := by omega
              subst hj2
              have hcnt := tks_cnt keys i (by omega) (by omega) K
              have htm := times_succ keys K i hlt
              rw [if_pos HK.out.symm] at htm
              have htl := times_le keys K i
              have hup : upC (cntOf (tks keys i) K) = (times keys K (i + 1) : Int) := by
                rw [hcnt, htm]; unfold upC; rw [if_neg (by omega)]; omega
              have HUP := Lib.hid hup
              have HTK : Hid (tks keys (i + 1) = touchM (tks keys i) K ((i : Int) + 1)) := Lib.hid (by rw [tks_succ keys i hlt, HK.out])
              clear hcnt htm htl hup
              go_wp2_with fail
              refine (bkTouch (by omega) HSi.out).mono ?_
              rintro en w5 ⟨rfl, S5⟩
              rw [← HTK.out] at S5
              rw [HUP.out]
              have HS5 := Lib.hid S5
              clear S5 HSi
              go_wp2_with fail
              go_roundw
              case rel => exact ⟨i + 1, by simp, by omega, Lib.hid (HS5.out.cong (by simp))⟩
              case measure => simp [RowKit.intOf]; omega
      · have hi2 : i = keys.length := by omega
        subst hi2
        clear hlt
        cases keys with
        | nil =>
          go_wp2_with fail
          refine (aliveFq HSi.out.drop1).mono ?_
          rintro en w5 ⟨rfl, S5⟩
          have HS5 := Lib.hid S5.old1
          clear S5
          go_wp2_with fail
          go_ret
          exact ⟨rfl, HS5.out⟩
        | cons key rest =>
          obtain ⟨ad, e1, hx⟩ := Kd.at_string HR.out 0 (by omega) (by simp)
          subst e1
          have hx' : w.cell? ad = some (.string key) := hx
          have hbel := HSi.out.drop1.old1
          replace hx' := (hbel.cell (World.block_lt_of_cell? w _ hx')).trans hx'
          clear hbel hx
          obtain ⟨es, hes⟩ : ∃ es, es = tks (key :: rest) (key :: rest).length := ⟨_, rfl⟩
          have hcnt := tks_cnt (key :: rest) (key :: rest).length (by omega) (by omega) key
          have htl := times_le (key :: rest) key (key :: rest).length
          rw [← hes] at HSi hcnt
          obtain ⟨M, hM⟩ : ∃ M : Nat, M = (key :: rest).length := ⟨_, rfl⟩
          rw [← hM] at HSi hcnt htl hk2 hk1 HR ⊢
          have hM1 : 0 < M := by rw [hM]; simp
          obtain ⟨C, hC⟩ : ∃ C : Int, C = cntOf es key := ⟨_, rfl⟩
          have hC0 : 0 ≤ C := by omega
          have hC1 : C ≤ 255 := by omega
          have HCC := Lib.hid hC
          have HAG := Lib.hid (again_cnt es key M (by omega) (by omega))
          clear hM hes hcnt htl hC
          go_wp2_with fail
          refine (bkCount HSi.out).mono ?_
          rintro en w5 ⟨rfl, rfl⟩
          rw [← HCC.out]
          go_wp2_with fail
          go_loopw [63] (fun v63 wq => ∃ j : Nat, v63 = .int .i64 j ∧ j ≤ N ∧ Hid (Sat w wq (bk b (again es key M j) ((M : Int) + j) * old w))) (fun v63 _ => N - (RowKit.intOf v63).toNat)
          case atStart => exact ⟨0, rfl, by omega, Lib.hid (HSi.out.cong (by rw [again, Int.natCast_zero, Int.add_zero]))⟩
          case round =>
            obtain ⟨j, rfl, hj, HSj⟩ := hrel
            clear hx'
            have hx' : wr.cell? ad = some (.string key) := by
              obtain ⟨ad2, e1, hx⟩ := Kd.at_string HR.out 0 (by omega) (by omega)
              cases e1
              have hx2 : w.cell? ad = some (.string key) := hx
              exact (HSj.out.drop1.old1.cell (World.block_lt_of_cell? w _ hx2)).trans hx2
            by_cases hjl : j < N
            · go_wp2_with fail
              refine (bkTouch (by omega) HSj.out).mono ?_
              rintro en w5 ⟨rfl, S5⟩
              have HS5 : Hid (Sat w w5 (bk b (again es key M (j + 1)) ((M : Int) + (j + 1 : Nat)) * old w)) := Lib.hid (S5.cong (by
                rw [show ((M : Int) + (j + 1 : Nat)) = (M : Int) + j + 1 from by omega]; rfl))
              clear S5 HSj
              go_wp2_with fail
              go_roundw
              case rel => exact ⟨j + 1, by simp, by omega, HS5⟩
              case measure => simp [RowKit.intOf]; omega
            · have hj2 : j = N := by omega
              subst hj2
              clear hjl
              have hag := HAG.out j
              rw [← HCC.out] at hag
              obtain ⟨U, hU⟩ : ∃ U : Int, (if 255 < C + (j : Int) then (255 : Int) else C + (j : Int)) = U := ⟨_, rfl⟩
              rw [hU] at hag
              have HAG2 := Lib.hid hag
              clear hag
              go_wp2_with fail
              refine (bkCount HSj.out).mono ?_
              rintro en w6 ⟨rfl, rfl⟩
              rw [HAG2.out]
              go_wp2_with fail
              refine (aliveFq HSj.out.drop1).mono ?_
              rintro en w7 ⟨rfl, S7⟩
              have HS7 := Lib.hid S7.old1
              clear S7
              go_wp2_with fail
              go_ret
              exact ⟨rfl, HS7.out⟩
theorem opensStrs : Opens Try.prog 32 (Kd.slice 9 Kd.string) (fun xs => ∀ x ∈ xs, x.size ≤ maxLen) := opens_slice Try.underlying32 (by kernel_rfl) (opens_string Try.underlying9)
theorem countsFqWalk {w : World} {A0 : Option Addr} {c0 : Nat} {keys : List ByteArray} (hC : Kd.C Kd.string w A0 keys.length keys) (hc : keys.length ≤ c0) (_ : ∀ x ∈ keys, x.size ≤ maxLen) (n : Int) (hn : (Lit.int .i64 n).wf = true) :
    Calls Try.prog 7 #[.slice A0 keys.length c0, .int .i64 n] w fun en w' => en = .returned (.bool true) ∧ Below w.heap.size w w' := countsFq hC hc hn
end Go.Sl
