/-
  Package freq: the contract of Halve.
-/
import Derived.Test.YtgkjendknckibaaFqC
import Derived.Test.YtgkjendknckibaaSo
import Derived.Test.YtgkjendknckibaaShF
namespace Go.Sl
open Go.RowKit Go.Proofs Go.Proofs.YtgkjendknckibaaW.PrintWords Go.Sort
set_option linter.unusedVariables false
set_option linter.unusedSimpArgs false
set_option maxRecDepth 100000

def cfW (es : List Mk) (x y : ByteArray) : Int := cmpI (whenOf es x) (whenOf es y)
theorem ltW (es : List Mk) (x y : ByteArray) : ltOf (cfW es) x y = decide (whenOf es x < whenOf es y) := by
  unfold ltOf cfW cmpI
  by_cases h1 : whenOf es x < whenOf es y
  · simp [h1]
  · by_cases h2 : whenOf es y < whenOf es x <;> simp [h1, h2]
theorem swoW (es : List Mk) : SWO (ltOf (cfW es)) where
  irrefl x := by rw [ltW]; simp
  trans x y z h1 h2 := by rw [ltW] at *; simp at *; omega
  ntrans x y z h1 h2 := by rw [ltW] at *; simp at *; omega
/-- The keys sorted by when they were touched. -/
theorem sortWhen {w0 w : World} {g cap n cb b mb rb : Nat} {es : List Mk} {now : Int} {R : HP} (ho : FOk es now) (hn : n = (allOf es).length) (hsz : n < 4611686018427387904)
    (S : Sat w0 w (row 9 1 (.slice (some ⟨g, 0, none⟩) n cap) n ((allOf es).map Value.string) * (pts cb (.cells #[pt b] 56 (0, 0)) * (pts b (.cells #[.map (some mb), .map (some rb), .int .u64 now] 80 (0, 0)) * (gmap Value.string mb (marksOf es) * R))))) :
    Calls Try.prog 52 #[.slice (some ⟨g, 0, none⟩) n cap, .func (.func 53) #[] #[pt cb]] w fun en w' => en = .returned (.tuple #[]) ∧
      Sat w0 w' (row 9 1 (.slice (some ⟨g, 0, none⟩) n cap) n ((es.map (·.k)).map Value.string) * (pts cb (.cells #[pt b] 56 (0, 0)) * (pts b (.cells #[.map (some mb), .map (some rb), .int .u64 now] 80 (0, 0)) * (gmap Value.string mb (marksOf es) * R)))) := by
  obtain ⟨d, hd⟩ : ∃ d : Array ByteArray, d = (allOf es).toArray := ⟨_, rfl⟩
  have hdl : d.toList = allOf es := by rw [hd]
  have hds : n = d.size := by rw [hn, hd]; simp
  rw [← hdl, hds] at S
  have eg : ∀ args w, (callFunc 53 args).run Try.prog w = .ok (.enter 53 args) w := enters_of Try.func53 (by kernel_rfl) rfl
  have hcmp : CmpLays1 Try.prog 53 #[pt cb] Value.string (cfW es) g 0 d.size w := by
    intro m os dk hk x y
    rw [← hk] at S
    refine (cmpWhen ho (S.row_world m os).drop1).mono ?_
    rintro e w' ⟨he, q, rfl⟩
    exact ⟨he, q, #[], by rw [grow_empty]⟩
  have hcon := Any.slices_SortFunc Try.sortF Value.string (fun _ => rfl) (cfW es) (swoW es) 53 #[pt cb] g 0 cap d w eg hcmp S.row_holds (by
    obtain ⟨_, h⟩ := S.row_open
    rcases h with ⟨h0, _⟩ | ⟨g2, cap2, cur, hv, _, _, _, _, S1⟩
    · cases h0
    · injection hv with hv; injection hv with hv; injection hv with hv
      subst hv; exact S1.lt) (by rw [← hds]; exact hsz)
  change Calls Try.prog 52 _ _ _ at hcon
  rw [hds]
  refine hcon.mono ?_
  rintro e w' ⟨he, d', m, os, hp, hs, rfl⟩
  refine ⟨he, ?_⟩
  obtain ⟨p1, p2, p3⟩ := hp
  rw [show d.extract 0 d.size = d from by simp, show d'.extract 0 d.size = d' from by rw [← p1]; simp] at p3
  rw [← p1] at hs
  have ek := halve_order ho (ltW es) (p3.trans (by rw [hdl])) hs
  rw [← p1] at S ⊢
  rw [← ek]
  exact S.row_world m os

set_option maxHeartbeats 8000000 in
/-- 'Halve'. -/
theorem bkHalve {w0 w : World} {b : Nat} {es : List Mk} {now : Int} {R : HP} (S : Sat w0 w (bk b es now * R)) :
    Calls Try.prog 35 #[pt b] w fun en w' => en = .returned (.int .i64 (lessN es)) ∧ Sat w0 w' (bk b (es.map halfM) now * R) := by
  obtain ⟨cb, hcb⟩ : ∃ cb, cb = w.heap.size := ⟨_, rfl⟩
  obtain ⟨mb0, rb0, hok, _⟩ := S.bk_open
  have hlen := allOf_length hok
  have S1 := S.alloc (.cells #[pt b] 56)
  rw [← hcb] at S1
  have HS := Lib.hid S1.p2
  have HX := Lib.hid hcb
  have HOK := Lib.hid hok
  have HL := Lib.hid hlen
  have hel : (es.length : Int) ≤ 1000000 := by have := hok.len; have := hok.n1; omega
  have HEL := Lib.hid hel
  have c0 := (blk1 S1.blk).1
  rw [hcb] at c0
  clear S S1 hcb hok hlen
  go_enter Try.func35, Try.ntmps35
  go_wp2_with fail
  rw [← HX.out] at c0 ⊢
  refine (bkAll HS.out).mono ?_
  rintro en w1 ⟨v, rfl, S1⟩
  clear HS HX c0
  obtain ⟨hrl, hrow⟩ := S1.row_open
  by_cases hz : (es.length : Int) = 0
  · have he : es = [] := List.eq_nil_of_length_eq_zero (by omega)
    subst he
    have e2 : (allOf []).length = 0 := HL.out
    obtain ⟨A, c, rfl⟩ : ∃ A c, v = .slice A 0 c := by
      rcases hrow with ⟨rfl, _⟩ | ⟨g, cap, cur, rfl, _⟩
      · exact ⟨_, _, rfl⟩
      · rw [e2]; exact ⟨_, _, rfl⟩
    have HS1 := Lib.hid S1.drop1
    clear S1 hrl hrow e2
    go_wp2_with fail
    go_ret
    exact ⟨rfl, HS1.out.p2.drop1.cong (by ac_rfl)⟩
  · have hzb : ((es.length : Int) == 0) = false := by rw [beq_eq_false_iff_ne]; exact hz
    obtain ⟨g, cap, rfl⟩ : ∃ g cap, v = .slice (some ⟨g, 0, none⟩) es.length cap := by
      rw [HL.out] at hrow
      rcases hrow with ⟨_, h0, _⟩ | ⟨g, cap, cur, rfl, _⟩
      · omega
      · exact ⟨_, _, rfl⟩
    clear hrl hrow
    rw [HL.out] at S1
    obtain ⟨mb, rb, _, S2⟩ := S1.p2.bk_open
    have S3 : Sat w0 w1 (row 9 1 (.slice (some ⟨g, 0, none⟩) es.length cap) es.length ((allOf es).map Value.string) * (pts cb (.cells #[pt b] 56 (0, 0)) * (pts b (.cells #[.map (some mb), .map (some rb), .int .u64 now] 80 (0, 0)) * (gmap Value.string mb (marksOf es) * (rmap rb (rowOf es) * R))))) := S2.cong (by ac_rfl)
    have HS3 := Lib.hid S3
    clear S1 S2 S3 hz
    go_wp2_with fail
    refine (sortWhen HOK.out HL.out.symm (by have := HEL.out; omega) HS3.out).mono ?_
    rintro en w2 ⟨rfl, S4⟩
    obtain ⟨r0, r1, r2, rf⟩ := blk3 S4.p3.blk
    have c0 := (blk1 S4.p2.blk).1
    obtain ⟨w3, hcl, S5⟩ := S4.p5.rmap_clear frm 0
    have HS5 := Lib.hid S5
    clear S4 S5 HS3
    go_wp2_with fail
    clear c0 r0 r1 r2 rf hcl
    go_loopw [4, 22] (fun v4 v22 wr => ∃ i : Nat, v22 = .int .i64 i ∧ i ≤ es.length ∧ v4 = .int .i64 (lessN (es.take i)) ∧ Hid (Sat w0 wr (pts cb (.cells #[pt b] 56 (0, 0)) * (pts b (.cells #[.map (some mb), .map (some rb), .int .u64 now] 80 (0, 0)) * (gmap Value.string mb (marksOf (midOf es i)) * (rmap rb (rowOf ((es.take i).map halfM)) * (row 9 1 (.slice (some ⟨g, 0, none⟩) es.length cap) es.length ((es.map (·.k)).map Value.string) * R))))))) (fun _ v22 _ => es.length - (RowKit.intOf v22).toNat)
    case atStart => exact ⟨0, rfl, by omega, rfl, Lib.hid (HS5.out.cong (by rw [mid_zero, List.take_zero, List.map_nil, show rowOf [] = fun _ => [] from funext fun n => by simp [rowOf]]; ac_rfl))⟩
    case round =>
      clear HS5
      obtain ⟨i, rfl, hi, rfl, HSi⟩ := hrel
      by_cases hlt : i < es.length
      · obtain ⟨g', e1, hc⟩ := (HSi.out.p5).row_cells i (.string es[i].k) (by simp [hlt])
        injection e1 with e1; injection e1 with e1; subst e1
        obtain ⟨r0, r1, r2, rf⟩ := blk3 HSi.out.p2.blk
        have c0 := (blk1 HSi.out.blk).1
        have hl := HSi.out.p3.run_lookup keys_string fmap fsk fzero false es[i].k
        rw [if_neg (by decide), mid_lk HOK.out hlt] at hl
        unfold Mk.v at hl
        obtain ⟨xb, hxb⟩ : ∃ xb, xb = wr.heap.size := ⟨_, rfl⟩
        have S6 := (HSi.out.alloc (.cells #[.int .i64 es[i].c, .int .u64 es[i].t] 89))
        rw [← hxb] at S6
        have HX := Lib.hid hxb
        have HS6 := Lib.hid S6
        clear S6 hxb
        go_upto_region 11 with (fail)
        rw [← HX.out]
        refine gen_w HS6.out ?_
        clear HS6 HX hl c0 r0 r1 r2 rf hc
        intro w4 S4
        obtain ⟨x0, x1, fx⟩ := blk2 S4.blk
        have c0 := (blk1 S4.p2.blk).1
        have hpos := HOK.out.pos es[i] (List.getElem_mem hlt)
        have hc1 : 1 ≤ es[i].c := hpos.1
        have hc2 : es[i].c ≤ 255 := hpos.2.1
        clear hpos
        have HINS := Lib.hid (mid_ins HOK.out hlt)
        have HROW := Lib.hid (mid_rows HOK.out hlt)
        have HLS := Lib.hid (lessN_succ hlt)
        have hls : (lessN (es.take i) : Int) ≤ 1000000 := by
          have h1 := lessN_le (es.take i)
          have h2 := List.length_take_le i es
          have := HEL.out; omega
        obtain ⟨u, hu⟩ : ∃ u, u = (halfM es[i]).c := ⟨_, rfl⟩
        have hvu : (halfM es[i]).v = .agg #[.int .i64 u, .int .u64 es[i].t] := by rw [hu]; rfl
        rw [hvu] at HINS
        rw [← hu] at HROW
        clear hvu
        obtain ⟨L, hL⟩ : ∃ L : Int, L = lessN (es.take (i + 1)) := ⟨_, rfl⟩
        have HLL := Lib.hid hL
        by_cases h1 : 1 < es[i].c
        case' pos =>
          have d1 : decide (1 < es[i].c) = true := decide_eq_true h1
          have ehc : es[i].c / 2 = u := by rw [hu]; unfold halfM; simp only; rw [if_pos h1]
          have hL2 : (lessN (es.take i) : Int) + 1 = L := by rw [hL, HLS.out, if_pos h1]; simp
          have HEH := Lib.hid ehc
          have HL2 := Lib.hid hL2
          have S5 := (S4.setCell (i := 0) (.int .i64 (es[i].c / 2)))
          rw [ehc] at S5
          have S5' : Sat w0 _ (pts xb (.cells #[.int .i64 u, .int .u64 es[i].t] 89 (0, 0)) * _) := S5
          have HS5 := Lib.hid S5'
          clear S4 S5 S5' ehc h1 hu hL HLS hL2
          generalize hcc : es[i].c = c at *
          go_upto_region 14 with (fail)
          rw [HEH.out, HL2.out]
        case' neg =>
          have d1 : decide (1 < es[i].c) = false := decide_eq_false h1
          have ehc : es[i].c = u := by rw [hu]; unfold halfM; simp only; rw [if_neg h1]
          have hL2 : (lessN (es.take i) : Int) = L := by rw [hL, HLS.out, if_neg h1]; simp
          have HEH := Lib.hid ehc
          have HL2 := Lib.hid hL2
          have S5 := S4
          rw [ehc] at S5
          have HS5 := Lib.hid S5
          clear S4 S5 ehc h1 hu hL HLS hL2
          generalize hcc : es[i].c = c at *
          go_upto_region 14 with (fail)
          rw [HEH.out, HL2.out]
        all_goals
          clear d1 x0 x1 fx c0 hc1 hc2 hcc HEH HL2
          refine gen_w HS5.out ?_
          clear HS5
          intro w5 S5
          obtain ⟨x0, x1, fx⟩ := blk2 S5.blk
          have c0 := (blk1 S5.p2.blk).1
          have S6 : Sat w0 w5 (pts b (.cells #[.map (some mb), .map (some rb), .int .u64 now] 80 (0, 0)) * (gmap Value.string mb (marksOf (midOf es i)) * (rmap rb (rowOf ((es.take i).map halfM)) * (pts xb (.cells #[.int .i64 u, .int .u64 es[i].t] 89 (0, 0)) * (pts cb (.cells #[pt b] 56 (0, 0)) * (row 9 1 (.slice (some ⟨g, 0, none⟩) es.length cap) es.length ((es.map (·.k)).map Value.string) * R)))))) := S5.cong (by ac_rfl)
          have HS6 := Lib.hid S6
          clear S5 S6
          go_wp2_with fail
          refine (lay_calls HS6.out).mono ?_
          rintro en w6 ⟨⟨v, rfl⟩, S7⟩
          rw [gmap_perm HINS.out, HROW.out] at S7
          have S8 := S7.p4.drop1
          have HS8 := Lib.hid (S8.cong (B := pts cb (.cells #[pt b] 56 (0, 0)) * (pts b (.cells #[.map (some mb), .map (some rb), .int .u64 now] 80 (0, 0)) * (gmap Value.string mb (marksOf (midOf es (i + 1))) * (rmap rb (rowOf ((es.take (i + 1)).map halfM)) * (row 9 1 (.slice (some ⟨g, 0, none⟩) es.length cap) es.length ((es.map (·.k)).map Value.string) * R))))) (by ac_rfl))
          clear S7 S8 HS6 x0 x1 fx c0
          go_wp2_with fail
          go_roundw
          case rel => exact ⟨i + 1, by simp, by omega, by rw [HLL.out], HS8⟩
          case measure => simp [RowKit.intOf]; omega
      · have hi2 : i = es.length := by omega
        subst hi2
        go_wp2_with fail
        go_ret
        exact ⟨by rw [List.take_length]; rfl, Sat.bk_shut (mb := mb) (rb := rb) HOK.out.half ((HSi.out.drop1.p4.drop1).cong (by rw [mid_full, List.take_length]))⟩
end Go.Sl
