/-
  'mewslaw11.TimerLast': the plain law, and the walk.
-/
import Derived.Test.YtgkjendknckibaaLawTmD
namespace Go.Sl
open Go.RowKit Go.Proofs Go.Proofs.YtgkjendknckibaaW.PrintWords Go.Proofs.Ytgkjendknckibaa.PTim
set_option linter.unusedVariables false
set_option maxRecDepth 100000

theorem rd36_at {xs : List Tm} {i : Nat} (h : i < xs.length) : rd_T36 xs (i : Int) = xs[i] := by unfold rd_T36; simp [List.getD_eq_getElem?_getD, h]
theorem rsame_l0 {xs : List Tm} (hs : xs.length ≤ 9223372036854775807) : ∀ (d k : Nat) (i : Nat), xs.length - i = d → d < k → i ≤ xs.length → mewsref11_Same.l0 k xs xs i = some true := by
  intro d
  induction d with
  | zero =>
    intro k i hd hk hi
    obtain ⟨k, rfl⟩ : ∃ m, k = m + 1 := ⟨k - 1, by omega⟩
    simp only [mewsref11_Same.l0]
    rw [if_neg (by omega)]
  | succ d ih =>
    intro k i hd hk hi
    obtain ⟨k, rfl⟩ : ∃ m, k = m + 1 := ⟨k - 1, by omega⟩
    have h1 : i < xs.length := by omega
    simp only [mewsref11_Same.l0]
    rw [if_pos (by omega), if_pos (by omega), if_pos (by omega), if_neg (by simp), wrap_up h1 hs]
    exact ih k (i + 1) (by omega) (by omega) (by omega)
theorem rsame_f (xs : List Tm) (hs : xs.length ≤ 9223372036854775807) : mewsref11_Same.f (xs.length + 1) xs xs = some true := by
  unfold mewsref11_Same.f
  rw [if_pos rfl]
  exact rsame_l0 hs xs.length (xs.length + 1) 0 (by omega) (by omega) (by omega)
/-! ### the plain law -/
theorem lessT_keys {r : List Tm} (h : keysOk r) (key : ByteArray) : keysOk (lessT r key) := List.Pairwise.sublist (List.filter_sublist.map _) h
theorem setL_keys {r : List Tm} (h : keysOk r) (key : ByteArray) (t : Int) : keysOk (setL r key t) := by
  unfold keysOk setL
  refine ((insT_perm _ _).map _).nodup_iff.2 ?_
  rw [List.map_append, List.nodup_append]
  refine ⟨lessT_keys h key, by simp, fun a ha b hb e => ?_⟩
  obtain ⟨y, hy, rfl⟩ := List.mem_map.1 ha
  simp only [List.map_cons, List.map_nil, List.mem_singleton] at hb
  exact lessT_key y hy (e.trans hb)
theorem findT_setL {r : List Tm} (h : keysOk r) (key : ByteArray) (t : Int) (k : ByteArray) : findT (setL r key t) k = if k = key then some ⟨key, t⟩ else findT r k := by
  have hk : keysOk (lessT r key ++ [⟨key, t⟩]) := ((insT_perm _ _).map _).nodup_iff.1 (setL_keys h key t)
  rw [show findT (setL r key t) k = findT (lessT r key ++ [⟨key, t⟩]) k from findT_perm (insT_perm _ _) hk k]
  unfold findT
  rw [List.find?_append]
  by_cases e : k = key
  · subst e
    rw [if_pos rfl]
    have : (lessT r k).find? (fun x => decide (x.f0 = k)) = none := List.find?_eq_none.2 fun y hy => by
      have := lessT_key y hy
      simpa using this
    rw [this]; simp
  · rw [if_neg e, List.find?_cons_of_neg (by simp; exact fun h => e h.symm), List.find?_nil, Option.or_none]
    unfold lessT
    rw [List.find?_filter]
    congr 1
    funext y
    by_cases e2 : y.f0 = k
    · simp [e2, e]
    · simp [e2]
theorem tso_keys (l : List Opt) : ∀ k, keysOk (tso l k)
  | 0 => List.Pairwise.nil
  | k + 1 => by
    by_cases h : k < l.length
    · rw [tso_succ l k h]; exact setL_keys (tso_keys l k) _ _
    · have : tso l (k + 1) = tso l k := by unfold tso; rw [List.take_of_length_le (by omega), List.take_of_length_le (by omega)]
      rw [this]; exact tso_keys l k
/-- Set from the last to the first one, and never turned. -/
def bso (l : List Opt) : Nat → List Tm
  | 0 => []
  | n + 1 => if h : n < l.length then (if (findT (bso l n) (l[l.length - 1 - n]'(by omega)).f1).isSome then bso l n else setL (bso l n) (l[l.length - 1 - n]'(by omega)).f1 (l[l.length - 1 - n]'(by omega)).f2) else bso l n
theorem bso_succ (l : List Opt) (n : Nat) (h : n < l.length) : bso l (n + 1) = if (findT (bso l n) (l[l.length - 1 - n]'(by omega)).f1).isSome then bso l n else setL (bso l n) (l[l.length - 1 - n]'(by omega)).f1 (l[l.length - 1 - n]'(by omega)).f2 := by rw [bso, dif_pos h]
theorem bso_ok (l : List Opt) : ∀ n, keysOk (bso l n) ∧ Srt (bso l n) ∧ (bso l n).length ≤ n
  | 0 => ⟨List.Pairwise.nil, List.Pairwise.nil, Nat.le_refl _⟩
  | n + 1 => by
    obtain ⟨h1, h2, h3⟩ := bso_ok l n
    rw [bso]
    split
    · split
      · exact ⟨h1, h2, by omega⟩
      · refine ⟨setL_keys h1 _ _, insT_srt (srt_less h2 _) lessT_key, ?_⟩
        have := setL_length (bso l n) (l[l.length - 1 - n]'(by omega)).f1 (l[l.length - 1 - n]'(by omega)).f2
        omega
    · exact ⟨h1, h2, by omega⟩
/-- What call number n says of key k. -/
def opAt (l : List Opt) (n : Nat) (k : ByteArray) : Option Tm := if h : n < l.length then (if k = l[n].f1 then some ⟨l[n].f1, l[n].f2⟩ else none) else none
theorem findT_tso (l : List Opt) (n : Nat) (h : n < l.length) (k : ByteArray) : findT (tso l (n + 1)) k = (opAt l n k).or (findT (tso l n) k) := by
  rw [tso_succ l n h, findT_setL (tso_keys l n)]
  unfold opAt
  rw [dif_pos h]
  by_cases e : k = l[n].f1
  · rw [if_pos e, if_pos e]; rfl
  · rw [if_neg e, if_neg e]; rfl
theorem findT_bso (l : List Opt) (n : Nat) (h : n < l.length) (k : ByteArray) : findT (bso l (n + 1)) k = (findT (bso l n) k).or (opAt l (l.length - 1 - n) k) := by
  have hn : l.length - 1 - n < l.length := by omega
  rw [bso_succ l n h]
  unfold opAt
  rw [dif_pos hn]
  by_cases hs : (findT (bso l n) l[l.length - 1 - n].f1).isSome = true
  · rw [if_pos hs]
    by_cases e : k = l[l.length - 1 - n].f1
    · subst e
      cases hf : findT (bso l n) l[l.length - 1 - n].f1 with
      | none => rw [hf] at hs; cases hs
      | some x => rfl
    · rw [if_neg e, Option.or_none]
  · rw [if_neg hs, findT_setL (bso_ok l n).1]
    by_cases e : k = l[l.length - 1 - n].f1
    · subst e
      rw [if_pos rfl, if_pos rfl]
      cases hf : findT (bso l n) l[l.length - 1 - n].f1 with
      | none => rfl
      | some x => rw [hf] at hs; exact absurd rfl hs
    · rw [if_neg e, if_neg e, Option.or_none]
theorem both (l : List Opt) (k : ByteArray) : ∀ n, n ≤ l.length → (findT (bso l n) k).or (findT (tso l (l.length - n)) k) = findT (tso l l.length) k
  | 0, _ => by rw [bso, Nat.sub_zero]; rfl
  | n + 1, h => by
    rw [findT_bso l n (by omega), Option.or_assoc]
    have e : l.length - n = (l.length - 1 - n) + 1 := by omega
    have h1 := findT_tso l (l.length - 1 - n) (by omega) k
    rw [← e] at h1
    rw [show l.length - (n + 1) = l.length - 1 - n from by omega, ← h1]
    exact both l k n (by omega)
theorem last_same (l : List Opt) : bso l l.length = tso l l.length := by
  have hf : ∀ k, findT (bso l l.length) k = findT (tso l l.length) k := fun k => by
    have := both l k l.length (Nat.le_refl _)
    rw [Nat.sub_self] at this
    rw [← this]
    show _ = (findT (bso l l.length) k).or none
    rw [Option.or_none]
  have k1 := (bso_ok l l.length).1
  have k2 := tso_keys l l.length
  have hm : ∀ x, x ∈ bso l l.length ↔ x ∈ tso l l.length := fun x => by
    constructor
    · intro h
      have := findT_mem k1 h
      rw [hf] at this
      exact (findT_some this).1
    · intro h
      have := findT_mem k2 h
      rw [← hf] at this
      exact (findT_some this).1
  have n1 : (bso l l.length).Nodup := (List.pairwise_map.1 k1).imp fun h e => h (by rw [e])
  have n2 : (tso l l.length).Nodup := (List.pairwise_map.1 k2).imp fun h e => h (by rw [e])
  exact srt_unique ((List.perm_ext_iff_of_nodup n1 n2).2 hm) ((bso_ok l l.length).2.1.imp fun h => lt_asymm' h) (tso_srt l l.length)
set_option maxHeartbeats 16000000 in
theorem lastTm {w : World} {A0 : Option Addr} {c0 : Nat} {l : List Opt} (hr0 : Kd.C k28 w A0 l.length l) (hc0 : l.length ≤ c0) :
    Calls Try.prog 4 #[.slice A0 l.length c0] w fun en w' => en = .returned (.bool true) ∧ Below w.heap.size w w' := by
  have hmax : l.length ≤ 9223372036854775807 := hr0.2.1
  have HR := Lib.hid hr0
  have HC := Lib.hid hc0
  cases hf1 : farB l with
  | true =>
    have HF := Lib.hid ((far_f hmax).trans (by rw [hf1]))
    clear hf1 hr0 hc0
    go_enter Try.func4, Try.ntmps4
    go_wp2_with fail
    refine (mewslaw11_far.calls (l.length + 1) A0 c0 l true w HR.out HC.out HF.out).mono ?_
    rintro en w1 ⟨rfl, hb⟩
    have HS1 := Lib.hid ((Sat.start w).below hb)
    clear hb
    go_wp2_with fail
    refine (aliveTm HS1.out).mono ?_
    rintro en w5 ⟨rfl, S5⟩
    have HS5 := Lib.hid S5.old1
    clear S5
    go_wp2_with fail
    go_ret
    exact ⟨rfl, HS5.out⟩
  | false =>
    have hlen : l.length ≤ 300 := by
      unfold farB at hf1
      have := (Bool.or_eq_false_iff.1 hf1).2
      simpa using this
    have HF := Lib.hid ((far_f hmax).trans (by rw [hf1]))
    clear hr0 hc0 hf1
    go_enter Try.func4, Try.ntmps4
    go_wp2_with fail
    refine (mewslaw11_far.calls (l.length + 1) A0 c0 l false w HR.out HC.out HF.out).mono ?_
    rintro en w1 ⟨rfl, hb⟩
    have HS1 := Lib.hid ((Sat.start w).below hb)
    clear hb
    go_wp2_with fail
    refine (tbNew HS1.out).mono ?_
    rintro en w2 ⟨a, rfl, S2⟩
    have HS2 := Lib.hid S2
    clear S2 HS1
    go_wp2_with fail
    refine (tbNew HS2.out).mono ?_
    rintro en w3 ⟨b, rfl, S3⟩
    have HS3 : Hid (Sat w w3 (tmb b (bso l 0) * (tmb a (tso l 0) * old w))) := Lib.hid S3
    clear S3 HS2
    go_wp2_with fail
    go_loopw [17] (fun v17 wr => ∃ i : Nat, v17 = .int .i64 i ∧ i ≤ l.length ∧ Hid (Sat w wr (tmb b (bso l i) * (tmb a (tso l i) * old w)))) (fun v17 _ => l.length - (RowKit.intOf v17).toNat)
    case atStart => exact ⟨0, rfl, by simp, HS3⟩
    case round =>
      clear HS3
      obtain ⟨i, rfl, hi, HSr⟩ := hrel
      by_cases hlt : i < l.length
      · obtain ⟨ad, e1, hx0, hx1, hx2⟩ := at_T28 HR.out (i : Int) (by omega) (by omega)
        cases e1
        have erd : ∀ i, (h : i < l.length) → rd_T28 l (i : Int) = l[i] := fun i h => by unfold rd_T28; simp [List.getD_eq_getElem?_getD, h]
        rw [Int.toNat_natCast, erd i hlt] at hx0 hx1 hx2
        have hml : l.length - 1 - i < l.length := by omega
        obtain ⟨ad2, e1, hy0, hy1, hy2⟩ := at_T28 HR.out ((l.length - 1 - i : Nat) : Int) (by omega) (by omega)
        cases e1
        rw [Int.toNat_natCast, erd _ hml] at hy0 hy1 hy2
        have hbel := HSr.out.drop1.drop1.old1
        have HHY := Lib.hid (And.intro hy0 (And.intro hy1 hy2))
        replace hx0 := (hbel.cell (World.block_lt_of_cell? w _ hx0)).trans hx0
        replace hx1 := (hbel.cell (World.block_lt_of_cell? w _ hx1)).trans hx1
        replace hx2 := (hbel.cell (World.block_lt_of_cell? w _ hx2)).trans hx2
        clear hbel erd hy0 hy1 hy2
        have HLA := Lib.hid (tso_length l i)
        have HLB := Lib.hid (bso_ok l i).2.2
        have HST := Lib.hid (tso_succ l i hlt)
        have HSB := Lib.hid (bso_succ l i hlt)
        obtain ⟨xx, hxx⟩ : ∃ xx, xx = l[i] := ⟨_, rfl⟩
        obtain ⟨yy, hyy⟩ : ∃ yy, yy = l[l.length - 1 - i] := ⟨_, rfl⟩
        rw [← hxx] at hx0 hx1 hx2 HST
        rw [← hyy] at HHY
        rw [← hyy] at HSB
        obtain ⟨kd, ky, tt⟩ := xx
        obtain ⟨kd2, ky2, tt2⟩ := yy
        simp only at hx0 hx1 hx2 HST HHY HSB
        have HAL := Lib.hid ((HSr.out.alloc (.cells #[.int .i64 kd, .string ky, .int .i64 tt] 28)).drop1)
        clear HSr hxx hyy hml
        go_wp2_with fail
        refine (tbSet (by have := HLA.out; omega) HAL.out.p2).mono ?_
        rintro en w3 ⟨rfl, S3⟩
        rw [← HST.out] at S3
        have HS3 := Lib.hid S3
        have hbel := S3.drop1.drop1.old1
        have hy0 := (hbel.cell (World.block_lt_of_cell? w _ HHY.out.1)).trans HHY.out.1
        have hy1 := (hbel.cell (World.block_lt_of_cell? w _ HHY.out.2.1)).trans HHY.out.2.1
        have hy2 := (hbel.cell (World.block_lt_of_cell? w _ HHY.out.2.2)).trans HHY.out.2.2
        have HAL2 := Lib.hid ((S3.alloc (.cells #[.int .i64 kd2, .string ky2, .int .i64 tt2] 28)).drop1)
        clear S3 HAL HST HLA hbel hx0 hx1 hx2
        cases hfk : findT (bso l i) ky2 with
        | none =>
          rw [hfk, if_neg (by decide)] at HSB
          have HFK := Lib.hid hfk
          have HFV : Hid (atV (bso l i) ky2 = .tuple #[.int .i64 0, .bool false]) := Lib.hid (by unfold atV; rw [hfk]; rfl)
          clear hfk
          go_wp2_with fail
          refine (tbAt HAL2.out.p2).mono ?_
          rintro en w4 ⟨rfl, rfl⟩
          rw [HFV.out]
          go_wp2_with fail
          refine (tbSet (by have := HLB.out; omega) HAL2.out.p2).mono ?_
          rintro en w5 ⟨rfl, S5⟩
          rw [← HSB.out] at S5
          have HS5 := Lib.hid S5
          clear S5 HAL2 HSB HLB HS3 HFV
          go_wp2_with fail
          go_roundw
          case rel => exact ⟨i + 1, by simp, by omega, HS5⟩
          case measure => simp [RowKit.intOf]; omega
        | some z =>
          rw [hfk, if_pos (show (some z).isSome = true from rfl)] at HSB
          have HFV : Hid (atV (bso l i) ky2 = .tuple #[.int .i64 z.f1, .bool true]) := Lib.hid (by unfold atV; rw [hfk]; rfl)
          clear hfk
          go_wp2_with fail
          refine (tbAt HAL2.out.p2).mono ?_
          rintro en w4 ⟨rfl, rfl⟩
          rw [HFV.out]
          have HS5 := Lib.hid (HAL2.out.p2.cong (by rw [← HSB.out]))
          clear HAL2 HSB HLB HS3 HFV
          go_wp2_with fail
          go_roundw
          case rel => exact ⟨i + 1, by simp, by omega, HS5⟩
          case measure => simp [RowKit.intOf]; omega
      · have hi2 : i = l.length := by omega
        subst hi2
        clear hlt hi
        have HLS := Lib.hid (last_same l)
        obtain ⟨r, hr⟩ : ∃ r, r = tso l l.length := ⟨_, rfl⟩
        have hll := tso_length l l.length
        rw [HLS.out, ← hr] at HSr
        rw [← hr] at hll
        have hll2 : r.length ≤ 300 := by omega
        clear hr hll HLS
        go_wp2_with fail
        refine (tbAll HSr.out.p2).mono ?_
        rintro en w5 ⟨v, rfl, S5⟩
        obtain ⟨A8, c8, rfl, hc8, -⟩ := Sat.row_C flatT rfl S5
        have HS5 := Lib.hid S5.p3
        have HC8c := Lib.hid hc8
        clear S5 HSr hc8
        go_wp2_with fail
        refine (tbAll HS5.out).mono ?_
        rintro en w6 ⟨v, rfl, S6⟩
        obtain ⟨A9, c9, rfl, hc9, hC9⟩ := Sat.row_C flatT rfl S6
        have hC8 := Sat.row_C_at flatT rfl S6.p3
        have HC9c := Lib.hid hc9
        have HC9 := Lib.hid hC9
        have HC8 := Lib.hid hC8
        have HS6 := Lib.hid (S6.drop1.p2.drop1)
        clear S6 HS5 hc9 hC9 hC8
        go_wp2_with fail
        refine (mewsref11_Same.calls (r.length + 1) A8 c8 r A9 c9 r true w6 HC8.out HC8c.out HC9.out HC9c.out (rsame_f r (by omega))).mono ?_
        rintro en w7 ⟨rfl, hd⟩
        have HS7 := Lib.hid (drawn_sat HS6.out hd)
        clear hd HS6 HC8 HC9
        go_wp2_with fail
        refine (tbLen HS7.out.p2).mono ?_
        rintro en w8 ⟨rfl, rfl⟩
        go_wp2_with fail
        refine (tbLen HS7.out).mono ?_
        rintro en w8 ⟨rfl, rfl⟩
        go_wp2_with fail
        refine (aliveTm HS7.out).mono ?_
        rintro en w9 ⟨rfl, S9⟩
        have HS9 := Lib.hid S9.drop1.drop1.old1
        clear S9
        go_wp2_with fail
        go_ret
        exact ⟨rfl, HS9.out⟩
theorem lastTmWalk {w : World} {A0 : Option Addr} {c0 : Nat} {l : List Opt} (hC : Kd.C k28 w A0 l.length l) (hc : l.length ≤ c0) (_ : ∀ x ∈ l, (Lit.int .i64 x.f2).wf = true) :
    Calls Try.prog 4 #[.slice A0 l.length c0] w fun en w' => en = .returned (.bool true) ∧ Below w.heap.size w w' := lastTm hC hc
end Go.Sl
