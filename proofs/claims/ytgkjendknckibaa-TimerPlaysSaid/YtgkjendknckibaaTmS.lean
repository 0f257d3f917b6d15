/-
  The contract of package timer's swap.
-/
import Derived.Test.YtgkjendknckibaaTm
namespace Go.Sl
open Go.RowKit Go.Proofs Go.Proofs.YtgkjendknckibaaW.PrintWords Go.Proofs.Ytgkjendknckibaa.PTim
set_option linter.unusedVariables false
set_option linter.unusedSimpArgs false
set_option maxRecDepth 100000
theorem swCells {w0 w : World} {g cap n m L o mb i k : Nat} {e t : TypeId} {xs : List Value} {a c : Value} {Y : HP} (S : Sat w0 w (row e 2 (.slice (some ⟨g, 0, none⟩) m cap) n xs * (pts o (.cells #[.slice (some ⟨g, 0, none⟩) L cap, .map (some mb)] t (0, 0)) * Y)))
    (hx : xs[i * 2]? = some a) (hy : xs[k * 2]? = some c) :
    w.cell? ⟨o, 0, none⟩ = some (.slice (some ⟨g, 0, none⟩) L cap) ∧ w.cell? ⟨o, 1, none⟩ = some (.map (some mb)) ∧ w.cell? ⟨g, i * 2, none⟩ = some a ∧ w.cell? ⟨g, k * 2, none⟩ = some c := by
  obtain ⟨c0, c1, _⟩ := blk2 S.p2.blk
  obtain ⟨g1, e1, h0⟩ := S.row_cells _ _ hx
  injection e1 with e1; injection e1 with e1
  subst e1
  obtain ⟨g1, e1, h1⟩ := S.row_cells _ _ hy
  injection e1 with e1; injection e1 with e1
  subst e1
  exact ⟨c0, c1, h0, h1⟩
set_option maxHeartbeats 8000000 in
/-- 'swap'. -/
theorem tmSwap {w0 w : World} {o i k : Nat} {hs : List Tm} {R : HP} (hi : i < hs.length) (hk : k < hs.length) (S : Sat w0 w (tmr o hs * R)) :
    Calls Try.prog 49 #[pt o, .int .i64 i, .int .i64 k] w fun en w' => en = .returned (.tuple #[]) ∧ Sat w0 w' (tmr o (sw hs i k) * R) := by
  obtain ⟨v, mb, hok, S1⟩ := S.tm_open
  obtain ⟨g, cap, rfl⟩ : ∃ g cap, v = .slice (some ⟨g, 0, none⟩) hs.length cap := by
    obtain ⟨_, h⟩ := S1.p2.row_open
    rcases h with ⟨_, h0, _⟩ | ⟨g, cap, cur, rfl, _⟩
    · omega
    · exact ⟨_, _, rfl⟩
  obtain ⟨c0, c1, f0⟩ := blk2 S1.blk
  obtain ⟨g1, e1, x0, x1⟩ := S1.p2.row_two hi
  cases e1
  obtain ⟨g1, e1, y0, y1⟩ := S1.p2.row_two hk
  cases e1
  have fg := S1.p2.row_frz g rfl
  have hlen := hok.len
  have hi' : (i : Int) < hs.length := by omega
  have hk' : (k : Int) < hs.length := by omega
  have HOK := Lib.hid hok
  have HS1 := Lib.hid S1.drew.p2
  -- what lies there behind the exchange
  have S2 := S1.drew.p2.row_put hi hs[k]
  have S3 := S2.row_put (by rw [List.length_set]; exact hk) hs[i]
  have HS3 := Lib.hid S3
  clear S S1 S2 S3 hok
  by_cases hik : i = k
  · subst hik
    go_enter Try.func49, Try.ntmps49
    go_wp2_with fail
    go_region
    clear c0 c1 f0 x0 x1 y0 y1 fg
    refine gen_w HS3.out ?_
    clear HS3 HS1
    intro w1 S4
    have e3 : (hs.set i hs[i]).set i hs[i] = sw hs i i := by simp only [sw, getD_at hi, getD_at hk]
    simp only [e3] at S4
    have S5 : Sat w0 w1 (row 36 2 (.slice (some ⟨g, 0, none⟩) (sw hs i i).length cap) (sw hs i i).length ((sw hs i i).flatMap encT) * (pts o (.cells #[.slice (some ⟨g, 0, none⟩) hs.length cap, .map (some mb)] 53 (0, 0)) * (gmap Value.string mb (lies hs) * R))) := S4
    have hxa : ((sw hs i i).flatMap encT)[i * 2]? = some (.string hs[i].f0) := by
      have := flat_cell flatT (xs := sw hs i i) (j := i) (i := 0) (List.getElem?_eq_getElem (by rw [sw_length]; exact hi)) (by rfl : (encT _)[0]? = some (.string _))
      rw [sw_at hi hk, if_pos rfl] at this
      exact this
    have hya : ((sw hs i i).flatMap encT)[i * 2]? = some (.string hs[i].f0) := by
      have := flat_cell flatT (xs := sw hs i i) (j := i) (i := 0) (List.getElem?_eq_getElem (by rw [sw_length]; exact hk)) (by rfl : (encT _)[0]? = some (.string _))
      rw [sw_at hi hk, if_pos rfl] at this
      exact this
    have cs := swCells S5 hxa hya
    obtain ⟨s1, hm1, hst1⟩ := S5.drew.p3.run_entry keys_string tkm tks' (lies_lk HOK.out hk)
    obtain ⟨w2, he1, S6⟩ := hst1 (.int .i64 i)
    clear hst1
    have hlk2 : lk (ins (lies hs) hs[i].f0 (.int .i64 i)) hs[i].f0 = some (.int .i64 i) :=
      lk_some (ins_nodup (by rw [lies_fst]; exact HOK.out.ks)) (mem_ins.2 (.inl rfl))
    obtain ⟨s2, hm2, hst2⟩ := S6.run_entry keys_string tkm tks' hlk2
    obtain ⟨w3, he2, S7⟩ := hst2 (.int .i64 i)
    clear hst2 hlk2
    have HS5 := Lib.hid S5
    have HS6 := Lib.hid S6.drop1
    have HS7 := Lib.hid S7.drop1
    rw [gmap_perm (lies_sw HOK.out hi hk)] at S7
    have S8 := Sat.tm_shut (HOK.out.perm (sw_perm hi hk)) (S7.p3.cong (B := pts o (.cells #[.slice (some ⟨g, 0, none⟩) hs.length cap, .map (some mb)] 53 (0, 0)) * (row 36 2 (.slice (some ⟨g, 0, none⟩) hs.length cap) (sw hs i i).length ((sw hs i i).flatMap encT) * (gmap Value.string mb (lies (sw hs i i)) * R))) (by rw [sw_length]; ac_rfl))
    have HS8 := Lib.hid S8
    have HXA := Lib.hid hxa
    have HYA := Lib.hid hya
    clear S4 S5 S6 S7 S8 e3 HOK hxa hya
    go_wp2_with fail
    go_region_held3 (fun w' => w'.cell? ⟨o, 0, none⟩ = some (.slice (some ⟨g, 0, none⟩) hs.length cap) ∧ w'.cell? ⟨o, 1, none⟩ = some (.map (some mb)) ∧ w'.cell? ⟨g, i * 2, none⟩ = some (.string hs[i].f0) ∧ w'.cell? ⟨g, i * 2, none⟩ = some (.string hs[i].f0))
      (first | exact swCells HS7.out HXA.out HYA.out | exact swCells HS6.out HXA.out HYA.out | exact swCells HS5.out.drew HXA.out HYA.out | exact swCells HS5.out HXA.out HYA.out) (fail)
    all_goals
      go_end0
      exact ⟨rfl, HS8.out⟩
  · skip
    go_enter Try.func49, Try.ntmps49
    go_wp2_with fail
    go_region
    clear c0 c1 f0 x0 x1 y0 y1 fg
    refine gen_w HS3.out ?_
    clear HS3 HS1
    intro w1 S4
    have e3 : (hs.set i hs[k]).set k hs[i] = sw hs i k := by simp only [sw, getD_at hi, getD_at hk]
    simp only [e3] at S4
    have S5 : Sat w0 w1 (row 36 2 (.slice (some ⟨g, 0, none⟩) (sw hs i k).length cap) (sw hs i k).length ((sw hs i k).flatMap encT) * (pts o (.cells #[.slice (some ⟨g, 0, none⟩) hs.length cap, .map (some mb)] 53 (0, 0)) * (gmap Value.string mb (lies hs) * R))) := S4
    have hxa : ((sw hs i k).flatMap encT)[i * 2]? = some (.string hs[k].f0) := by
      have := flat_cell flatT (xs := sw hs i k) (j := i) (i := 0) (List.getElem?_eq_getElem (by rw [sw_length]; exact hi)) (by rfl : (encT _)[0]? = some (.string _))
      rw [sw_at hi hk, if_neg hik, if_pos rfl] at this
      exact this
    have hya : ((sw hs i k).flatMap encT)[k * 2]? = some (.string hs[i].f0) := by
      have := flat_cell flatT (xs := sw hs i k) (j := k) (i := 0) (List.getElem?_eq_getElem (by rw [sw_length]; exact hk)) (by rfl : (encT _)[0]? = some (.string _))
      rw [sw_at hi hk, if_pos rfl] at this
      exact this
    have cs := swCells S5 hxa hya
    obtain ⟨s1, hm1, hst1⟩ := S5.drew.p3.run_entry keys_string tkm tks' (lies_lk HOK.out hk)
    obtain ⟨w2, he1, S6⟩ := hst1 (.int .i64 i)
    clear hst1
    have hlk2 : lk (ins (lies hs) hs[k].f0 (.int .i64 i)) hs[i].f0 = some (.int .i64 i) :=
      lk_some (ins_nodup (by rw [lies_fst]; exact HOK.out.ks)) (mem_ins.2 (.inr ⟨mem_lies.2 ⟨i, hi, rfl⟩, fun h => hik (HOK.out.inj hi hk h)⟩))
    obtain ⟨s2, hm2, hst2⟩ := S6.run_entry keys_string tkm tks' hlk2
    obtain ⟨w3, he2, S7⟩ := hst2 (.int .i64 k)
    clear hst2 hlk2
    have HS5 := Lib.hid S5
    have HS6 := Lib.hid S6.drop1
    have HS7 := Lib.hid S7.drop1
    rw [gmap_perm (lies_sw HOK.out hi hk)] at S7
    have S8 := Sat.tm_shut (HOK.out.perm (sw_perm hi hk)) (S7.p3.cong (B := pts o (.cells #[.slice (some ⟨g, 0, none⟩) hs.length cap, .map (some mb)] 53 (0, 0)) * (row 36 2 (.slice (some ⟨g, 0, none⟩) hs.length cap) (sw hs i k).length ((sw hs i k).flatMap encT) * (gmap Value.string mb (lies (sw hs i k)) * R))) (by rw [sw_length]; ac_rfl))
    have HS8 := Lib.hid S8
    have HXA := Lib.hid hxa
    have HYA := Lib.hid hya
    clear S4 S5 S6 S7 S8 e3 HOK hxa hya
    go_wp2_with fail
    go_region_held3 (fun w' => w'.cell? ⟨o, 0, none⟩ = some (.slice (some ⟨g, 0, none⟩) hs.length cap) ∧ w'.cell? ⟨o, 1, none⟩ = some (.map (some mb)) ∧ w'.cell? ⟨g, i * 2, none⟩ = some (.string hs[k].f0) ∧ w'.cell? ⟨g, k * 2, none⟩ = some (.string hs[i].f0))
      (first | exact swCells HS7.out HXA.out HYA.out | exact swCells HS6.out HXA.out HYA.out | exact swCells HS5.out.drew HXA.out HYA.out | exact swCells HS5.out HXA.out HYA.out) (fail)
    all_goals
      go_end0
      exact ⟨rfl, HS8.out⟩
end Go.Sl
