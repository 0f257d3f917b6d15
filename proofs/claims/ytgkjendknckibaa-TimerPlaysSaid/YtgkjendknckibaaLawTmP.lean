/-
  'mewslaw11.TimerPlays': the plain law, and the walk.
-/
import Derived.Test.YtgkjendknckibaaTmRS
import Derived.Test.YtgkjendknckibaaTmRD
import Derived.Laws.StructEq
namespace Go.Sl
open Go.RowKit Go.Proofs Go.Proofs.YtgkjendknckibaaW.PrintWords Go.Proofs.Ytgkjendknckibaa.PTim
set_option linter.unusedVariables false
set_option linter.unusedSimpArgs false
set_option maxRecDepth 100000
theorem rat_l0 {r : List Tm} {key : ByteArray} (hs : r.length ≤ 9223372036854775807) : ∀ (d k : Nat) (i : Nat), r.length - i = d → d < k → i ≤ r.length →
    mewsref11_At.l0 k r key i = some ((((findT (r.drop i) key).map (·.f1)).getD 0), (findT (r.drop i) key).isSome) := by
  intro d
  induction d with
  | zero =>
    intro k i hd hk hi
    obtain ⟨k, rfl⟩ : ∃ m, k = m + 1 := ⟨k - 1, by omega⟩
    simp only [mewsref11_At.l0]
    rw [if_neg (by omega), List.drop_of_length_le (by omega)]
    rfl
  | succ d ih =>
    intro k i hd hk hi
    obtain ⟨k, rfl⟩ : ∃ m, k = m + 1 := ⟨k - 1, by omega⟩
    have h1 : i < r.length := by omega
    have e1 : rd_T36 r (i : Int) = r[i] := by unfold rd_T36; simp [List.getD_eq_getElem?_getD, h1]
    simp only [mewsref11_At.l0]
    rw [if_pos (by omega), if_pos (by omega), e1, wrap_up h1 hs, ih k (i + 1) (by omega) (by omega) (by omega), List.drop_eq_getElem_cons h1]
    by_cases e : r[i].f0 = key
    · rw [if_pos (toList_inj.2 e)]
      unfold findT
      rw [List.find?_cons_of_pos (by simpa using e)]
      rfl
    · rw [if_neg (fun h => e (toList_inj.1 h))]
      unfold findT
      rw [List.find?_cons_of_neg (by simpa using e)]
theorem rat_f (r : List Tm) (key : ByteArray) (hs : r.length ≤ 9223372036854775807) : mewsref11_At.f (r.length + 1) r key = some ((((findT r key).map (·.f1)).getD 0), (findT r key).isSome) := by
  unfold mewsref11_At.f
  have := rat_l0 (key := key) hs r.length (r.length + 1) 0 (by omega) (by omega) (by omega)
  simpa using this
theorem tmNeqS (a : ByteArray) (b : Int) (w : World) : (binOp .neq 36 (.agg #[.string a, .int .i64 b]) (.agg #[.string a, .int .i64 b])).run Try.prog w = .ok (.bool false) w := by
  go_simp
theorem rD_str (v : Value) (d : List Tm) : rD v d = row 9 1 v (d.map (·.f0)).length ((d.map (·.f0)).map Value.string) := by
  simp only [rD, List.length_map, List.map_map]; rfl
theorem firstV_cons (a : ByteArray) (b : Int) (tl : List Tm) : firstV (⟨a, b⟩ :: tl) = .tuple #[.agg #[.string a, .int .i64 b], .bool true] := rfl
theorem firstV_nil : firstV [] = .tuple #[.agg #[.string (ga [] 0).f0, .int .i64 (ga [] 0).f1], .bool false] := rfl
theorem cellsN {w0 w : World} {xb : Nat} {xk : ByteArray} {xt : Int} {t : TypeId} {R : HP} (S : Sat w0 w (pts xb (.cells #[.string xk, .int .i64 xt] t (0, 0)) * R)) :
    w.cell? ⟨xb, 0, none⟩ = some (.string xk) ∧ w.cell? ⟨xb, 1, none⟩ = some (.int .i64 xt) := by
  obtain ⟨a0, a1, _⟩ := blk2 S.blk
  exact ⟨a0, a1⟩
theorem cellsX {w0 w : World} {xb g c : Nat} {xk : ByteArray} {xt : Int} {tl : List Tm} {t : TypeId} {R : HP} (S : Sat w0 w (pts xb (.cells #[.string xk, .int .i64 xt] t (0, 0)) * (rT (.slice (some ⟨g, 0, none⟩) (⟨xk, xt⟩ :: tl : List Tm).length c) (⟨xk, xt⟩ :: tl) * R))) :
    w.cell? ⟨xb, 0, none⟩ = some (.string xk) ∧ w.cell? ⟨xb, 1, none⟩ = some (.int .i64 xt) ∧ w.cell? ⟨g, 0, none⟩ = some (.string xk) ∧ w.cell? ⟨g, 1, none⟩ = some (.int .i64 xt) := by
  obtain ⟨a0, a1⟩ := cellsN S
  obtain ⟨g', e1, x0, x1⟩ := S.p2.row_two (i := 0) (by simp : 0 < (⟨xk, xt⟩ :: tl : List Tm).length)
  cases e1
  exact ⟨a0, a1, x0, x1⟩
theorem mv3 (A B C D : HP) : A * (B * (C * D)) = A * (C * (B * D)) := by ac_rfl
theorem mv4 (A B C D : HP) : A * (B * (C * D)) = B * (C * (A * D)) := by ac_rfl
theorem mv5 (A B C D E : HP) : A * (B * (C * (D * E))) = C * (D * (A * (B * E))) := by ac_rfl
/-- What a call leaves. -/
def nxt (o : Opt) (r : List Tm) : List Tm := if o.f0 = 0 then setL r o.f1 o.f2 else if o.f0 = 1 then lessT r o.f1 else leftOf r o.f2
theorem leftOf_keys {r : List Tm} (h : keysOk r) (now : Int) : keysOk (leftOf r now) := List.Pairwise.sublist ((List.dropWhile_sublist _).map _) h
theorem bneB (x : Bool) : (x != x) = false := by cases x <;> rfl
theorem bneI (x : Int) : (x != x) = false := by simp
attribute [local go_sem] tmNeqS bneB bneI
set_option maxHeartbeats 16000000 in
theorem playsTm {w : World} {A0 : Option Addr} {c0 : Nat} {l : List Opt} (hr0 : Kd.C k28 w A0 l.length l) (hc0 : l.length ≤ c0) :
    Calls Try.prog 5 #[.slice A0 l.length c0] w fun en w' => en = .returned (.bool true) ∧ Below w.heap.size w w' := by
  have hmax : l.length ≤ 9223372036854775807 := hr0.2.1
  have HR := Lib.hid hr0
  have HC := Lib.hid hc0
  cases hf1 : farB l with
  | true =>
    have HF := Lib.hid ((far_f hmax).trans (by rw [hf1]))
    clear hf1 hr0 hc0
    go_enter Try.func5, Try.ntmps5
    go_wp2_with fail
    refine (mewslaw11_far.calls (l.length + 1) A0 c0 l true w HR.out HC.out HF.out).mono ?_
    rintro en w1 ⟨rfl, hb⟩
    have HS1 := Lib.hid ((Sat.start w).below hb)
    clear hb
    go_wp2_with fail
    refine (aliveTm HS1.out).mono ?_
    rintro en w5 ⟨rfl, S5⟩
    have HS5 := Lib.hid S5.old1
    clear S5
    go_wp2_with fail
    go_ret
    exact ⟨rfl, HS5.out⟩
  | false =>
    have hlen : l.length ≤ 300 := by
      unfold farB at hf1
      have := (Bool.or_eq_false_iff.1 hf1).2
      simpa using this
    have HF := Lib.hid ((far_f hmax).trans (by rw [hf1]))
    clear hr0 hc0 hf1
    go_enter Try.func5, Try.ntmps5
    go_wp2_with fail
    refine (mewslaw11_far.calls (l.length + 1) A0 c0 l false w HR.out HC.out HF.out).mono ?_
    rintro en w1 ⟨rfl, hb⟩
    have HS1 := Lib.hid ((Sat.start w).below hb)
    clear hb
    go_wp2_with fail
    refine (tbNew HS1.out).mono ?_
    rintro en w2 ⟨b, rfl, S2⟩
    have HS2 : Hid (Sat w w2 (tmb b [] * (rT (.slice none 0 0) [] * old w))) := Lib.hid (Sat.p2 (S2.row_nil _ _))
    clear S2 HS1
    go_wp2_with fail
    go_loopw [4, 22] (fun v4 v22 wr => ∃ q : Nat × List Tm, v22 = .int .i64 q.1 ∧ q.1 ≤ l.length ∧ q.2.length ≤ q.1 ∧ Hid (keysOk q.2) ∧ Hid (Sat w wr (tmb b q.2 * (rT v4 q.2 * old w)))) (fun _ v22 _ => l.length - (RowKit.intOf v22).toNat)
    case atStart => exact ⟨(0, []), rfl, by simp, by simp, Lib.hid List.Pairwise.nil, HS2⟩
    case round =>
      clear HS2
      obtain ⟨⟨i, r⟩, rfl, hi, hrl, HK, HSi⟩ := hrel
      simp only at hi hrl HK HSi
      by_cases hlt : i < l.length
      · obtain ⟨ad, e1, hx0, hx1, hx2⟩ := at_T28 HR.out (i : Int) (by omega) (by omega)
        cases e1
        have erd : ∀ i, (h : i < l.length) → rd_T28 l (i : Int) = l[i] := fun i h => by unfold rd_T28; simp [List.getD_eq_getElem?_getD, h]
        rw [Int.toNat_natCast, erd i hlt] at hx0 hx1 hx2
        have hbel := HSi.out.drop1.drop1.old1
        replace hx0 := (hbel.cell (World.block_lt_of_cell? w _ hx0)).trans hx0
        replace hx1 := (hbel.cell (World.block_lt_of_cell? w _ hx1)).trans hx1
        replace hx2 := (hbel.cell (World.block_lt_of_cell? w _ hx2)).trans hx2
        clear hbel erd
        obtain ⟨xx, hxx⟩ : ∃ xx, xx = l[i] := ⟨_, rfl⟩
        rw [← hxx] at hx0 hx1 hx2
        obtain ⟨kd, ky, tt⟩ := xx
        simp only at hx0 hx1 hx2
        clear hxx
        obtain ⟨ob, hob⟩ : ∃ ob, ob = wr.heap.size := ⟨_, rfl⟩
        have SA := HSi.out.alloc (.cells #[.int .i64 kd, .string ky, .int .i64 tt] 28)
        rw [← hob] at SA
        have HSA := Lib.hid SA
        have HOB := Lib.hid hob
        clear SA hob HSi
        go_upto_region 8 with (fail)
        rw [← HOB.out]
        clear hx0 hx1 hx2
        refine gen_w HSA.out ?_
        clear HSA HOB
        intro wq SB
        obtain ⟨b0, b1, b2, -⟩ := blk3 SB.blk
        have HSB := Lib.hid SB
        clear SB
        by_cases h0 : kd = 0
        case' pos =>
          subst h0
          go_wp2_with fail
          clear b0 b1 b2
          obtain ⟨pv, hpv⟩ : ∃ pv, pv = !(findT r ky).isSome := ⟨_, rfl⟩
          have HPV := Lib.hid hpv
          clear hpv
          refine (tbSet (by omega) HSB.out.p2).mono ?_
          rintro en w3 ⟨rfl, S3⟩
          rw [← HPV.out]
          obtain ⟨b0, b1, b2, -⟩ := blk3 S3.p2.blk
          have HS3 := Lib.hid S3
          clear S3 HSB
          go_wp2_with fail
          clear b0 b1 b2
          refine (rSet (by omega) HK.out HS3.out.p3).mono ?_
          rintro en w4 ⟨v4, rfl, S4⟩
          obtain ⟨A4, c4, rfl, hc4, -⟩ := Sat.row_C flatT rfl S4
          rw [← HPV.out]
          obtain ⟨r2, hr2⟩ : ∃ r2, r2 = setL r ky tt := ⟨_, rfl⟩
          have hr2l : r2.length ≤ i + 1 := by
            have := setL_length r ky tt
            rw [← hr2] at this; omega
          have HK2 : Hid (keysOk r2) := Lib.hid (by rw [hr2]; exact setL_keys HK.out _ _)
          rw [← hr2] at S4 hc4
          rw [← hr2]
          obtain ⟨b0, b1, b2, -⟩ := blk3 S4.p3.blk
          have HSQ := Lib.hid S4.p2
          clear S4 HS3 HPV hr2
          go_wp2_with fail
        case' neg =>
          have hk0 : (kd == 0) = false := beq_eq_false_iff_ne.2 h0
          by_cases h1 : kd = 1
          case' pos =>
            subst h1
            clear hk0 h0
            go_wp2_with fail
            clear b0 b1 b2
            obtain ⟨pv, hpv⟩ : ∃ pv, pv = (findT r ky).isSome := ⟨_, rfl⟩
            have HPV := Lib.hid hpv
            clear hpv
            refine (tbDrop HSB.out.p2).mono ?_
            rintro en w3 ⟨rfl, S3⟩
            rw [← HPV.out]
            obtain ⟨b0, b1, b2, -⟩ := blk3 S3.p2.blk
            have HS3 := Lib.hid S3
            clear S3 HSB
            go_wp2_with fail
            clear b0 b1 b2
            refine (rDrop (by omega) HK.out HS3.out.p3).mono ?_
            rintro en w4 ⟨v4, rfl, S4⟩
            obtain ⟨A4, c4, rfl, hc4, -⟩ := Sat.row_C flatT rfl S4
            rw [← HPV.out]
            obtain ⟨r2, hr2⟩ : ∃ r2, r2 = lessT r ky := ⟨_, rfl⟩
            have hr2l : r2.length ≤ i + 1 := by
              have : (lessT r ky).length ≤ r.length := List.length_filter_le _ _
              rw [← hr2] at this; omega
            have HK2 : Hid (keysOk r2) := Lib.hid (by rw [hr2]; exact lessT_keys HK.out _)
            rw [← hr2] at S4 hc4
            rw [← hr2]
            obtain ⟨b0, b1, b2, -⟩ := blk3 S4.p3.blk
            have HSQ := Lib.hid S4.p2
            clear S4 HS3 HPV hr2
            go_wp2_with fail
          case' neg =>
            have hk1 : (kd == 1) = false := beq_eq_false_iff_ne.2 h1
            clear h0 h1
            go_wp2_with fail
            clear b0 b1 b2
            refine (rDue (by omega) HSB.out.p3).mono ?_
            rintro en w3 ⟨v4, vd, rfl, S3⟩
            obtain ⟨A4, c4, rfl, hc4, -⟩ := Sat.row_C flatT rfl S3
            obtain ⟨b0, b1, b2, -⟩ := blk3 S3.p3.blk
            have HS3 := Lib.hid S3
            have hdl := due_length r tt
            clear S3 HSB
            go_wp2_with fail
            clear b0 b1 b2
            refine (tbDue HS3.out.p4).mono ?_
            rintro en w4 ⟨v2, rfl, S4⟩
            have S5 := S4.p4
            rw [rD_str] at S5
            obtain ⟨D, hD⟩ : ∃ D, D = (dueOf r tt).map (·.f0) := ⟨_, rfl⟩
            have hDl : D.length ≤ 300 := by rw [hD, List.length_map]; omega
            rw [← hD] at S4 S5
            obtain ⟨A9, c9, rfl, hc9, hC9⟩ := S4.row_str rfl
            obtain ⟨A8, c8, rfl, hc8, hC8⟩ := S5.row_str rfl
            obtain ⟨r2, hr2⟩ : ∃ r2, r2 = leftOf r tt := ⟨_, rfl⟩
            have hr2l : r2.length ≤ i + 1 := by rw [hr2]; omega
            have HK2 : Hid (keysOk r2) := Lib.hid (by rw [hr2]; exact leftOf_keys HK.out _)
            rw [← hr2] at S4 hc4
            rw [← hr2]
            have HSC := Lib.hid (S4.drop1.p3.drop1)
            have HC9 := Lib.hid hC9
            have HC8 := Lib.hid hC8
            have HC9c := Lib.hid hc9
            have HC8c := Lib.hid hc8
            have hDd : (dueOf r tt).length = D.length := by rw [hD, List.length_map]
            try rw [hDd]
            clear S4 S5 HS3 hr2 hC9 hC8 hc9 hc8 hD hdl hDd
            go_wp2_with fail
            refine (mewsref02_Same.calls (D.length + 1) A9 c9 D A8 c8 D true _ HC9.out HC9c.out HC8.out HC8c.out ((same_f _ _ (by omega)).trans (by simp))).mono ?_
            rintro en w5 ⟨rfl, hd⟩
            have HSQ := Lib.hid (drawn_sat HSC.out hd)
            obtain ⟨b0, b1, b2, -⟩ := blk3 HSQ.out.p3.blk
            clear hd HSC HC9 HC8 HC9c HC8c hDl
            go_wp2_with fail
        all_goals
          have HC4 := Lib.hid hc4
          clear hc4
          obtain ⟨av, hav⟩ : ∃ av, av = ((findT r2 ky).map (·.f1)).getD 0 := ⟨_, rfl⟩
          obtain ⟨hv, hhv⟩ : ∃ hv, hv = (findT r2 ky).isSome := ⟨_, rfl⟩
          have HAT : Hid (mewsref11_At.f (r2.length + 1) r2 ky = some (av, hv)) := Lib.hid (by rw [rat_f r2 ky (by omega), hav, hhv])
          have HAV : Hid (atV r2 ky = .tuple #[.int .i64 av, .bool hv]) := Lib.hid (by unfold atV; rw [hav, hhv])
          clear hav hhv
          refine (tbAt HSQ.out).mono ?_
          rintro en w6 ⟨rfl, rfl⟩
          rw [HAV.out]
          go_wp2_with fail
          refine (mewsref11_At.calls (r2.length + 1) A4 c4 r2 ky av hv _ (Sat.row_C_at flatT rfl HSQ.out.p2) HC4.out HAT.out).mono ?_
          rintro en w7 ⟨rfl, hd⟩
          have HSR := Lib.hid (drawn_sat HSQ.out hd)
          clear hd HSQ b0 b1 b2 HAV HAT
          go_wp2_with fail
          refine (tbFirst HSR.out).mono ?_
          rintro en w8 ⟨rfl, S8⟩
          obtain ⟨xb, hxb⟩ : ∃ xb, xb = w8.heap.size := ⟨_, rfl⟩
          cases r2 with
          | nil =>
            rw [firstV_nil]
            generalize (ga [] 0).f0 = xk
            generalize (ga [] 0).f1 = xt
            have SX := S8.alloc (.cells #[.string xk, .int .i64 xt] 36)
            rw [← hxb] at SX
            have HSX0 := Lib.hid SX
            have HXB := Lib.hid hxb
            clear SX S8 HSR hxb
            go_upto_region 22 with (fail)
            rw [← HXB.out]
            refine gen_w HSX0.out ?_
            clear HSX0 HXB
            intro W SX
            have HSX := Lib.hid SX
            have hc2 := cellsN SX
            clear SX
            refine wp_region_noPanic ?_
            refine wp_region_held_drew (S := (fun w' => w'.cell? ⟨xb, 0, none⟩ = some (.string xk) ∧ w'.cell? ⟨xb, 1, none⟩ = some (.int .i64 xt))) (by kernel_rfl) ?_ (fun hHeld => ?_)
            · exact cellsN (HSX.out.drew.cong (mv3 _ _ _ _))
            refine wpAnyH_take (i := 0) (v := ?_) (by simp only [List.getElem?_toArray, List.getElem?_cons_succ, List.getElem?_cons_zero]; rfl) (by kernel_rfl) (by kernel_rfl) (by kernel_rfl) (fun _ _ _ h => h) (Or.inl ⟨by rfl, ?_⟩) hHeld ?_
            rotate_left
            · (intro w hSw; (try dsimp only at hSw); go_simp; try with_reducible rfl)
            try simp only [Act.put, List.setIfInBounds_toArray, List.set_cons_zero, List.set_cons_succ]
            refine wpAnyH_take (i := 1) (v := ?_) (by simp only [List.getElem?_toArray, List.getElem?_cons_succ, List.getElem?_cons_zero]; rfl) (by kernel_rfl) (by kernel_rfl) (by kernel_rfl) (fun _ _ _ h => h) (Or.inl ⟨by rfl, ?_⟩) hHeld ?_
            rotate_left
            · (intro w hSw; (try dsimp only at hSw); go_simp; try with_reducible rfl)
            try simp only [Act.put, List.setIfInBounds_toArray, List.set_cons_zero, List.set_cons_succ]
            refine wpAnyH_take (i := 2) (v := ?_) (by simp only [List.getElem?_toArray, List.getElem?_cons_succ, List.getElem?_cons_zero]; rfl) (by kernel_rfl) (by kernel_rfl) (by kernel_rfl) (fun _ _ _ h => h) (Or.inl ⟨by rfl, ?_⟩) hHeld ?_
            rotate_left
            · (intro w hSw; (try dsimp only at hSw); go_simp; try with_reducible rfl)
            try simp only [Act.put, List.setIfInBounds_toArray, List.set_cons_zero, List.set_cons_succ]
            refine wpAnyH_take (i := 3) (v := ?_) (by simp only [List.getElem?_toArray, List.getElem?_cons_succ, List.getElem?_cons_zero]; rfl) (by kernel_rfl) (by kernel_rfl) (by kernel_rfl) (fun _ _ _ h => h) (Or.inl ⟨by rfl, ?_⟩) hHeld ?_
            rotate_left
            · (intro w hSw; (try dsimp only at hSw); go_simp; try with_reducible rfl)
            try simp only [Act.put, List.setIfInBounds_toArray, List.set_cons_zero, List.set_cons_succ]
            refine wpAnyH_take (i := 4) (v := ?_) (by simp only [List.getElem?_toArray, List.getElem?_cons_succ, List.getElem?_cons_zero]; rfl) (by kernel_rfl) (by kernel_rfl) (by kernel_rfl) (fun _ _ _ h => h) (Or.inl ⟨by rfl, ?_⟩) hHeld ?_
            rotate_left
            · (intro w hSw; (try dsimp only at hSw); go_simp; try with_reducible rfl)
            try simp only [Act.put, List.setIfInBounds_toArray, List.set_cons_zero, List.set_cons_succ]
            refine wpAnyH_take (i := 5) (v := ?_) (by simp only [List.getElem?_toArray, List.getElem?_cons_succ, List.getElem?_cons_zero]; rfl) (by kernel_rfl) (by kernel_rfl) (by kernel_rfl) (fun _ _ _ h => h) (Or.inl ⟨by rfl, ?_⟩) hHeld ?_
            rotate_left
            · (intro w hSw; (try dsimp only at hSw); go_simp; try with_reducible rfl)
            try simp only [Act.put, List.setIfInBounds_toArray, List.set_cons_zero, List.set_cons_succ]
            refine wpAnyH_take (i := 6) (v := ?_) (by simp only [List.getElem?_toArray, List.getElem?_cons_succ, List.getElem?_cons_zero]; rfl) (by kernel_rfl) (by kernel_rfl) (by kernel_rfl) (fun _ _ _ h => h) (Or.inl ⟨by rfl, ?_⟩) hHeld ?_
            rotate_left
            · (intro w hSw; (try dsimp only at hSw); go_simp; try with_reducible rfl)
            try simp only [Act.put, List.setIfInBounds_toArray, List.set_cons_zero, List.set_cons_succ]
            refine wpAnyH_take (i := 7) (v := ?_) (by simp only [List.getElem?_toArray, List.getElem?_cons_succ, List.getElem?_cons_zero]; rfl) (by kernel_rfl) (by kernel_rfl) (by kernel_rfl) (fun _ _ _ h => h) (Or.inl ⟨by rfl, ?_⟩) hHeld ?_
            rotate_left
            · (intro w hSw; (try dsimp only at hSw); go_simp; try with_reducible rfl)
            try simp only [Act.put, List.setIfInBounds_toArray, List.set_cons_zero, List.set_cons_succ]
            refine wpAnyH_take (i := 8) (v := ?_) (by simp only [List.getElem?_toArray, List.getElem?_cons_succ, List.getElem?_cons_zero]; rfl) (by kernel_rfl) (by kernel_rfl) (by kernel_rfl) (fun _ _ _ h => h) (Or.inl ⟨by rfl, ?_⟩) hHeld ?_
            rotate_left
            · (intro w hSw; (try dsimp only at hSw); go_simp; try with_reducible rfl)
            try simp only [Act.put, List.setIfInBounds_toArray, List.set_cons_zero, List.set_cons_succ]
            refine wpAnyH_take (i := 9) (v := ?_) (by simp only [List.getElem?_toArray, List.getElem?_cons_succ, List.getElem?_cons_zero]; rfl) (by kernel_rfl) (by kernel_rfl) (by kernel_rfl) (fun _ _ _ h => h) (Or.inl ⟨by rfl, ?_⟩) hHeld ?_
            rotate_left
            · (intro w hSw; (try dsimp only at hSw); go_simp; try with_reducible rfl)
            try simp only [Act.put, List.setIfInBounds_toArray, List.set_cons_zero, List.set_cons_succ]
            refine wpAnyH_take (i := 10) (v := ?_) (by simp only [List.getElem?_toArray, List.getElem?_cons_succ, List.getElem?_cons_zero]; rfl) (by kernel_rfl) (by kernel_rfl) (by kernel_rfl) (fun _ _ _ h => h) (Or.inl ⟨by rfl, ?_⟩) hHeld ?_
            rotate_left
            · (intro w hSw; (try dsimp only at hSw); go_simp; try with_reducible rfl)
            try simp only [Act.put, List.setIfInBounds_toArray, List.set_cons_zero, List.set_cons_succ]
            refine wpAnyH_take (i := 11) (v := ?_) (by simp only [List.getElem?_toArray, List.getElem?_cons_succ, List.getElem?_cons_zero]; rfl) (by kernel_rfl) (by kernel_rfl) (by kernel_rfl) (fun _ _ _ h => h) (Or.inl ⟨by rfl, ?_⟩) hHeld ?_
            rotate_left
            · (intro w hSw; (try dsimp only at hSw); go_simp; try with_reducible rfl)
            try simp only [Act.put, List.setIfInBounds_toArray, List.set_cons_zero, List.set_cons_succ]
            refine wpAnyH_take (i := 12) (v := ?_) (by simp only [List.getElem?_toArray, List.getElem?_cons_succ, List.getElem?_cons_zero]; rfl) (by kernel_rfl) (by kernel_rfl) (by kernel_rfl) (fun _ _ _ h => h) (Or.inl ⟨by rfl, ?_⟩) hHeld ?_
            rotate_left
            · (intro w hSw; (try dsimp only at hSw); go_simp; try with_reducible rfl)
            try simp only [Act.put, List.setIfInBounds_toArray, List.set_cons_zero, List.set_cons_succ]
            refine wpAnyH_take (i := 13) (v := ?_) (by simp only [List.getElem?_toArray, List.getElem?_cons_succ, List.getElem?_cons_zero]; rfl) (by kernel_rfl) (by kernel_rfl) (by kernel_rfl) (fun _ _ _ h => h) (Or.inl ⟨by rfl, ?_⟩) hHeld ?_
            rotate_left
            · (intro w hSw; (try dsimp only at hSw); go_simp; try with_reducible rfl)
            try simp only [Act.put, List.setIfInBounds_toArray, List.set_cons_zero, List.set_cons_succ]
            refine wpAnyH_take (i := 14) (v := ?_) (by simp only [List.getElem?_toArray, List.getElem?_cons_succ, List.getElem?_cons_zero]; rfl) (by kernel_rfl) (by kernel_rfl) (by kernel_rfl) (fun _ _ _ h => h) (Or.inl ⟨by rfl, ?_⟩) hHeld ?_
            rotate_left
            · (intro w hSw; (try dsimp only at hSw); go_simp; try with_reducible rfl)
            try simp only [Act.put, List.setIfInBounds_toArray, List.set_cons_zero, List.set_cons_succ]
            refine wpAnyH_take (i := 15) (v := ?_) (by simp only [List.getElem?_toArray, List.getElem?_cons_succ, List.getElem?_cons_zero]; rfl) (by kernel_rfl) (by kernel_rfl) (by kernel_rfl) (fun _ _ _ h => h) (Or.inl ⟨by rfl, ?_⟩) hHeld ?_
            rotate_left
            · (intro w hSw; (try dsimp only at hSw); go_simp; try with_reducible rfl)
            try simp only [Act.put, List.setIfInBounds_toArray, List.set_cons_zero, List.set_cons_succ]
            refine wpAnyH_take (i := 16) (v := ?_) (by simp only [List.getElem?_toArray, List.getElem?_cons_succ, List.getElem?_cons_zero]; rfl) (by kernel_rfl) (by kernel_rfl) (by kernel_rfl) (fun _ _ _ h => h) (Or.inl ⟨by rfl, ?_⟩) hHeld ?_
            rotate_left
            · (intro w hSw; (try dsimp only at hSw); go_simp; try with_reducible rfl)
            try simp only [Act.put, List.setIfInBounds_toArray, List.set_cons_zero, List.set_cons_succ]
            refine wpAnyH_take (i := 17) (v := ?_) (by simp only [List.getElem?_toArray, List.getElem?_cons_succ, List.getElem?_cons_zero]; rfl) (by kernel_rfl) (by kernel_rfl) (by kernel_rfl) (fun _ _ _ h => h) (Or.inl ⟨by rfl, ?_⟩) hHeld ?_
            rotate_left
            · (intro w hSw; (try dsimp only at hSw); go_simp; try with_reducible rfl)
            try simp only [Act.put, List.setIfInBounds_toArray, List.set_cons_zero, List.set_cons_succ]
            refine wpAnyH_take (i := 18) (v := ?_) (by simp only [List.getElem?_toArray, List.getElem?_cons_succ, List.getElem?_cons_zero]; rfl) (by kernel_rfl) (by kernel_rfl) (by kernel_rfl) (fun _ _ _ h => h) (Or.inl ⟨by rfl, ?_⟩) hHeld ?_
            rotate_left
            · (intro w hSw; (try dsimp only at hSw); go_simp; try with_reducible rfl)
            try simp only [Act.put, List.setIfInBounds_toArray, List.set_cons_zero, List.set_cons_succ]
            refine wpAnyH_take (i := 19) (v := ?_) (by simp only [List.getElem?_toArray, List.getElem?_cons_succ, List.getElem?_cons_zero]; rfl) (by kernel_rfl) (by kernel_rfl) (by kernel_rfl) (fun _ _ _ h => h) (Or.inl ⟨by rfl, ?_⟩) hHeld ?_
            rotate_left
            · (intro w hSw; (try dsimp only at hSw); go_simp; try with_reducible rfl)
            try simp only [Act.put, List.setIfInBounds_toArray, List.set_cons_zero, List.set_cons_succ]
            refine wpAnyH_take (i := 20) (v := ?_) (by simp only [List.getElem?_toArray, List.getElem?_cons_succ, List.getElem?_cons_zero]; rfl) (by kernel_rfl) (by kernel_rfl) (by kernel_rfl) (fun _ _ _ h => h) (Or.inl ⟨by rfl, ?_⟩) hHeld ?_
            rotate_left
            · (intro w hSw; (try dsimp only at hSw); go_simp; try with_reducible rfl)
            try simp only [Act.put, List.setIfInBounds_toArray, List.set_cons_zero, List.set_cons_succ]
            refine wpAnyH_take (i := 21) (v := ?_) (by simp only [List.getElem?_toArray, List.getElem?_cons_succ, List.getElem?_cons_zero]; rfl) (by kernel_rfl) (by kernel_rfl) (by kernel_rfl) (fun _ _ _ h => h) (Or.inl ⟨by rfl, ?_⟩) hHeld ?_
            rotate_left
            · (intro w hSw; (try dsimp only at hSw); go_simp; try with_reducible rfl)
            try simp only [Act.put, List.setIfInBounds_toArray, List.set_cons_zero, List.set_cons_succ]
            refine wpAnyH_take (i := 22) (v := ?_) (by simp only [List.getElem?_toArray, List.getElem?_cons_succ, List.getElem?_cons_zero]; rfl) (by kernel_rfl) (by kernel_rfl) (by kernel_rfl) (fun _ _ _ h => h) (Or.inl ⟨by rfl, ?_⟩) hHeld ?_
            rotate_left
            · (intro w hSw; (try dsimp only at hSw); go_simp; try with_reducible rfl)
            try simp only [Act.put, List.setIfInBounds_toArray, List.set_cons_zero, List.set_cons_succ]
            refine wpAnyH_take (i := 23) (v := undef) (by simp only [List.getElem?_toArray, List.getElem?_cons_succ, List.getElem?_cons_zero]; rfl) (by kernel_rfl) (by kernel_rfl) (by kernel_rfl) (fun _ _ _ h => h) (Or.inr ⟨by rfl, rfl⟩) hHeld ?_
            try simp only [Act.put, List.setIfInBounds_toArray, List.set_cons_zero, List.set_cons_succ]
            refine wpAnyH_take (i := 24) (v := undef) (by simp only [List.getElem?_toArray, List.getElem?_cons_succ, List.getElem?_cons_zero]; rfl) (by kernel_rfl) (by kernel_rfl) (by kernel_rfl) (fun _ _ _ h => h) (Or.inr ⟨by rfl, rfl⟩) hHeld ?_
            try simp only [Act.put, List.setIfInBounds_toArray, List.set_cons_zero, List.set_cons_succ]
            refine wpAnyH_take (i := 25) (v := undef) (by simp only [List.getElem?_toArray, List.getElem?_cons_succ, List.getElem?_cons_zero]; rfl) (by kernel_rfl) (by kernel_rfl) (by kernel_rfl) (fun _ _ _ h => h) (Or.inr ⟨by rfl, rfl⟩) hHeld ?_
            try simp only [Act.put, List.setIfInBounds_toArray, List.set_cons_zero, List.set_cons_succ]
            refine wpAnyH_take (i := 26) (v := undef) (by simp only [List.getElem?_toArray, List.getElem?_cons_succ, List.getElem?_cons_zero]; rfl) (by kernel_rfl) (by kernel_rfl) (by kernel_rfl) (fun _ _ _ h => h) (Or.inr ⟨by rfl, rfl⟩) hHeld ?_
            try simp only [Act.put, List.setIfInBounds_toArray, List.set_cons_zero, List.set_cons_succ]
            refine wpAnyH_take (i := 27) (v := undef) (by simp only [List.getElem?_toArray, List.getElem?_cons_succ, List.getElem?_cons_zero]; rfl) (by kernel_rfl) (by kernel_rfl) (by kernel_rfl) (fun _ _ _ h => h) (Or.inr ⟨by rfl, rfl⟩) hHeld ?_
            try simp only [Act.put, List.setIfInBounds_toArray, List.set_cons_zero, List.set_cons_succ]
            refine wpAnyH_take (i := 28) (v := ?_) (by simp only [List.getElem?_toArray, List.getElem?_cons_succ, List.getElem?_cons_zero]; rfl) (by kernel_rfl) (by kernel_rfl) (by kernel_rfl) (fun _ _ _ h => h) (Or.inl ⟨by rfl, ?_⟩) hHeld ?_
            rotate_left
            · (intro w hSw; (try dsimp only at hSw); go_simp; try with_reducible rfl)
            try simp only [Act.put, List.setIfInBounds_toArray, List.set_cons_zero, List.set_cons_succ]
            refine wpAnyH_take (i := 29) (v := ?_) (by simp only [List.getElem?_toArray, List.getElem?_cons_succ, List.getElem?_cons_zero]; rfl) (by kernel_rfl) (by kernel_rfl) (by kernel_rfl) (fun _ _ _ h => h) (Or.inl ⟨by rfl, ?_⟩) hHeld ?_
            rotate_left
            · (intro w hSw; (try dsimp only at hSw); go_simp; try with_reducible rfl)
            try simp only [Act.put, List.setIfInBounds_toArray, List.set_cons_zero, List.set_cons_succ]
            refine wpAnyH_take (i := 30) (v := ?_) (by simp only [List.getElem?_toArray, List.getElem?_cons_succ, List.getElem?_cons_zero]; rfl) (by kernel_rfl) (by kernel_rfl) (by kernel_rfl) (fun _ _ _ h => h) (Or.inl ⟨by rfl, ?_⟩) hHeld ?_
            rotate_left
            · (intro w hSw; (try dsimp only at hSw); go_simp; try with_reducible rfl)
            try simp only [Act.put, List.setIfInBounds_toArray, List.set_cons_zero, List.set_cons_succ]
            refine wpAnyH_take (i := 31) (v := ?_) (by simp only [List.getElem?_toArray, List.getElem?_cons_succ, List.getElem?_cons_zero]; rfl) (by kernel_rfl) (by kernel_rfl) (by kernel_rfl) (fun _ _ _ h => h) (Or.inl ⟨by rfl, ?_⟩) hHeld ?_
            rotate_left
            · (intro w hSw; (try dsimp only at hSw); go_simp; try with_reducible rfl)
            try simp only [Act.put, List.setIfInBounds_toArray, List.set_cons_zero, List.set_cons_succ]
            refine wpAnyH_take (i := 33) (v := ?_) (by simp only [List.getElem?_toArray, List.getElem?_cons_succ, List.getElem?_cons_zero]; rfl) (by kernel_rfl) (by kernel_rfl) (by kernel_rfl) (fun _ _ _ h => h) (Or.inl ⟨by rfl, ?_⟩) hHeld ?_
            rotate_left
            · (intro w hSw; (try dsimp only at hSw); go_simp; try with_reducible rfl)
            try simp only [Act.put, List.setIfInBounds_toArray, List.set_cons_zero, List.set_cons_succ]
            refine wpAnyH_take (i := 34) (v := ?_) (by simp only [List.getElem?_toArray, List.getElem?_cons_succ, List.getElem?_cons_zero]; rfl) (by kernel_rfl) (by kernel_rfl) (by kernel_rfl) (fun _ _ _ h => h) (Or.inl ⟨by rfl, ?_⟩) hHeld ?_
            rotate_left
            · (intro w hSw; (try dsimp only at hSw); go_simp; try with_reducible rfl)
            try simp only [Act.put, List.setIfInBounds_toArray, List.set_cons_zero, List.set_cons_succ]
            refine wpAnyH_ready (rs := [32]) (by kernel_rfl) (by simp) ?_
            refine AllReadyH.cons rfl (fun K hK => ?_) AllReadyH.nil
            go_simp
            (refine (tbLen HSX.out.drew.p2).mono ?_; rintro en w' ⟨rfl, rfl⟩; go_wp2_with fail)
            refine hK.out _ _ ?_ (fun hHeld => ?_)
            · exact hHeld
            clear hK K
            try simp only [Act.put, List.setIfInBounds_toArray, List.set_cons_zero, List.set_cons_succ]
            refine wpAnyH_take (i := 35) (v := ?_) (by simp only [List.getElem?_toArray, List.getElem?_cons_succ, List.getElem?_cons_zero]; rfl) (by kernel_rfl) (by kernel_rfl) (by kernel_rfl) (fun _ _ _ h => h) (Or.inl ⟨by rfl, ?_⟩) hHeld ?_
            rotate_left
            · (intro w hSw; (try dsimp only at hSw); go_simp; try with_reducible rfl)
            try simp only [Act.put, List.setIfInBounds_toArray, List.set_cons_zero, List.set_cons_succ]
            refine wpAnyH_take (i := 36) (v := ?_) (by simp only [List.getElem?_toArray, List.getElem?_cons_succ, List.getElem?_cons_zero]; rfl) (by kernel_rfl) (by kernel_rfl) (by kernel_rfl) (fun _ _ _ h => h) (Or.inl ⟨by rfl, ?_⟩) hHeld ?_
            rotate_left
            · (intro w hSw; (try dsimp only at hSw); go_simp; try with_reducible rfl)
            try simp only [Act.put, List.setIfInBounds_toArray, List.set_cons_zero, List.set_cons_succ]
            refine wpAnyH_take (i := 37) (v := ?_) (by simp only [List.getElem?_toArray, List.getElem?_cons_succ, List.getElem?_cons_zero]; rfl) (by kernel_rfl) (by kernel_rfl) (by kernel_rfl) (fun _ _ _ h => h) (Or.inl ⟨by rfl, ?_⟩) hHeld ?_
            rotate_left
            · (intro w hSw; (try dsimp only at hSw); go_simp; try with_reducible rfl)
            try simp only [Act.put, List.setIfInBounds_toArray, List.set_cons_zero, List.set_cons_succ]
            refine wpAnyH_take (i := 38) (v := ?_) (by simp only [List.getElem?_toArray, List.getElem?_cons_succ, List.getElem?_cons_zero]; rfl) (by kernel_rfl) (by kernel_rfl) (by kernel_rfl) (fun _ _ _ h => h) (Or.inl ⟨by rfl, ?_⟩) hHeld ?_
            rotate_left
            · (intro w hSw; (try dsimp only at hSw); go_simp; try with_reducible rfl)
            try simp only [Act.put, List.setIfInBounds_toArray, List.set_cons_zero, List.set_cons_succ]
            refine wpAnyH_take (i := 40) (v := ?_) (by simp only [List.getElem?_toArray, List.getElem?_cons_succ, List.getElem?_cons_zero]; rfl) (by kernel_rfl) (by kernel_rfl) (by kernel_rfl) (fun _ _ _ h => h) (Or.inl ⟨by rfl, ?_⟩) hHeld ?_
            rotate_left
            · (intro w hSw; (try dsimp only at hSw); go_simp; try with_reducible rfl)
            try simp only [Act.put, List.setIfInBounds_toArray, List.set_cons_zero, List.set_cons_succ]
            refine wpAnyH_ready (rs := [39]) (by kernel_rfl) (by simp) ?_
            refine AllReadyH.cons rfl (fun K hK => ?_) AllReadyH.nil
            go_simp
            (refine (tbAll HSX.out.drew.p2).mono ?_; rintro en wc ⟨v, rfl, Sb⟩; obtain ⟨A7, c7, rfl, hc7, -⟩ := Sat.row_C flatT rfl Sb; have HSb := Lib.hid Sb; have HC7 := Lib.hid hc7; clear Sb hc7; go_wp2_with fail)
            refine hK.out _ _ ?_ (fun hHeld => ?_)
            · exact cellsN (HSb.out.cong (mv5 _ _ _ _ _))
            clear hK K
            try simp only [Act.put, List.setIfInBounds_toArray, List.set_cons_zero, List.set_cons_succ]
            refine wpAnyH_ready (rs := [41]) (by kernel_rfl) (by simp) ?_
            refine AllReadyH.cons rfl (fun K hK => ?_) AllReadyH.nil
            go_simp
            (refine (mewsref11_Same.calls (([] : List Tm).length + 1) A7 c7 ([] : List Tm) A4 c4 ([] : List Tm) true _ (Sat.row_C_at flatT rfl HSb.out) HC7.out (Sat.row_C_at flatT rfl HSb.out.p4) HC4.out (rsame_f ([] : List Tm) (Nat.le_trans hr2l (by omega)))).mono ?_; rintro en wd ⟨rfl, hd⟩; have HSe := Lib.hid (drawn_sat HSb.out.drop1 hd); clear hd; go_wp2_with fail)
            refine hK.out _ _ ?_ (fun hHeld => ?_)
            · exact cellsN (HSe.out.cong (mv4 _ _ _ _))
            clear hK K
            try simp only [Act.put, List.setIfInBounds_toArray, List.set_cons_zero, List.set_cons_succ]
            refine wpAnyH_take (i := 42) (v := ?_) (by simp only [List.getElem?_toArray, List.getElem?_cons_succ, List.getElem?_cons_zero]; rfl) (by kernel_rfl) (by kernel_rfl) (by kernel_rfl) (fun _ _ _ h => h) (Or.inl ⟨by rfl, ?_⟩) hHeld ?_
            rotate_left
            · (intro w hSw; (try dsimp only at hSw); go_simp; try with_reducible rfl)
            try simp only [Act.put, List.setIfInBounds_toArray, List.set_cons_zero, List.set_cons_succ]
            refine wpAnyH_take (i := 43) (v := ?_) (by simp only [List.getElem?_toArray, List.getElem?_cons_succ, List.getElem?_cons_zero]; rfl) (by kernel_rfl) (by kernel_rfl) (by kernel_rfl) (fun _ _ _ h => h) (Or.inl ⟨by rfl, ?_⟩) hHeld ?_
            rotate_left
            · (intro w hSw; (try dsimp only at hSw); go_simp; try with_reducible rfl)
            try simp only [Act.put, List.setIfInBounds_toArray, List.set_cons_zero, List.set_cons_succ]
            refine wpAnyH_done (by kernel_rfl) ?_ _
            refine NoPanic.normal ?_
            have HSF := Lib.hid HSe.out.p2.drop1.p3.drop1
            clear HSe HSb HSX
            go_wp2_with fail
            go_roundw
            case rel => exact ⟨(i + 1, ([] : List Tm)), by simp, by simp; omega, by simp, HK2, HSF⟩
            case measure => simp [RowKit.intOf]; omega
          | cons x tl =>
            obtain ⟨xk, xt⟩ := x
            rw [firstV_cons]
            obtain ⟨g, rfl⟩ := row_at S8.p2 (by simp)
            have SX := S8.alloc (.cells #[.string xk, .int .i64 xt] 36)
            rw [← hxb] at SX
            have HSX0 := Lib.hid SX
            have HXB := Lib.hid hxb
            clear SX S8 HSR hxb
            go_upto_region 22 with (fail)
            rw [← HXB.out]
            refine gen_w HSX0.out ?_
            clear HSX0 HXB
            intro W SX
            have HSX := Lib.hid SX
            have hc4 := cellsX (SX.cong (mv3 _ _ _ _))
            clear SX
            have hpos : (0 : Int) < ((⟨xk, xt⟩ :: tl : List Tm).length : Int) := by simp
            go_region_held3 (fun w' => w'.cell? ⟨xb, 0, none⟩ = some (.string xk) ∧ w'.cell? ⟨xb, 1, none⟩ = some (.int .i64 xt) ∧ w'.cell? ⟨g, 0, none⟩ = some (.string xk) ∧ w'.cell? ⟨g, 1, none⟩ = some (.int .i64 xt))
              (first
                | exact cellsX (HSe.out.cong (mv4 _ _ _ _)) | exact cellsX (HSb.out.cong (mv5 _ _ _ _ _)) | exact cellsX (HSX.out.drew.cong (mv3 _ _ _ _)) | exact cellsX (HSX.out.cong (mv3 _ _ _ _)))
              ((first
                | (go_at_call 17; refine (tbLen HSX.out.drew.p2).mono ?_; rintro en w' ⟨rfl, rfl⟩)
                | (go_at_call 15; refine (tbAll HSX.out.drew.p2).mono ?_; rintro en wc ⟨v, rfl, Sb⟩; obtain ⟨A7, c7, rfl, hc7, -⟩ := Sat.row_C flatT rfl Sb; have HSb := Lib.hid Sb; have HC7 := Lib.hid hc7; clear Sb hc7)
                | (go_at_call 20; refine (mewsref11_Same.calls ((⟨xk, xt⟩ :: tl : List Tm).length + 1) A7 c7 (⟨xk, xt⟩ :: tl : List Tm) (some ⟨g, 0, none⟩) c4 (⟨xk, xt⟩ :: tl : List Tm) true _ (Sat.row_C_at flatT rfl HSb.out) HC7.out (Sat.row_C_at flatT rfl HSb.out.p4) HC4.out (rsame_f (⟨xk, xt⟩ :: tl : List Tm) (Nat.le_trans hr2l (by omega)))).mono ?_; rintro en wd ⟨rfl, hd⟩; have HSe := Lib.hid (drawn_sat HSb.out.drop1 hd); clear hd)))
            have HSF := Lib.hid HSe.out.p2.drop1.p3.drop1
            clear HSe HSb HSX
            go_wp2_with fail
            go_roundw
            case rel => exact ⟨(i + 1, (⟨xk, xt⟩ :: tl : List Tm)), by simp, by simp; omega, by simpa using hr2l, HK2, HSF⟩
            case measure => simp [RowKit.intOf]; omega
      · have hi2 : i = l.length := by omega
        subst hi2
        clear hlt hi
        go_wp2_with fail
        refine (aliveTm HSi.out).mono ?_
        rintro en w9 ⟨rfl, S9⟩
        have HS9 := Lib.hid S9.drop1.drop1.old1
        clear S9
        go_wp2_with fail
        go_ret
        exact ⟨rfl, HS9.out⟩
theorem playsTmWalk {w : World} {A0 : Option Addr} {c0 : Nat} {l : List Opt} (hC : Kd.C k28 w A0 l.length l) (hc : l.length ≤ c0) (_ : ∀ x ∈ l, (Lit.int .i64 x.f2).wf = true) :
    Calls Try.prog 5 #[.slice A0 l.length c0] w fun en w' => en = .returned (.bool true) ∧ Below w.heap.size w w' := playsTm hC hc
end Go.Sl
