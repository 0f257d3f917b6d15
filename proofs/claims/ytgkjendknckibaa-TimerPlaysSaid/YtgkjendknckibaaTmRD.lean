/-
  The document's answer for layer 11, by contract: Due.
-/
import Derived.Test.YtgkjendknckibaaTmR
namespace Go.Sl
open Go.RowKit Go.Proofs Go.Proofs.YtgkjendknckibaaW.PrintWords Go.Proofs.Ytgkjendknckibaa.PTim
set_option linter.unusedVariables false
set_option linter.unusedSimpArgs false
set_option maxRecDepth 100000
abbrev rD (v : Value) (d : List Tm) : HP := row 9 1 v d.length (d.map fun x => Value.string x.f0)
set_option maxHeartbeats 8000000 in
/-- 'R.Due'. -/
theorem rDue {w0 w : World} {v : Value} {l : List Tm} {now : Int} {R : HP} (hl : l.length ≤ 1000) (S : Sat w0 w (rT v l * R)) :
    Calls Try.prog 24 #[v, .int .i64 now] w fun en w' => ∃ v' vd, en = .returned (.tuple #[v', vd]) ∧ Sat w0 w' (rT v' (leftOf l now) * (rD vd (dueOf l now) * R)) := by
  have HS : Hid (Sat w0 w (rT v l * (rD (.slice none 0 0) [] * R))) := Lib.hid (Sat.p2 (S.row_nil _ _))
  have HL := Lib.hid hl
  clear S hl
  go_enter Try.func24, Try.ntmps24
  go_wp2_with fail
  go_loopw [0, 6] (fun v0 v6 wr => ∃ q : List Tm × List Tm, Hid (l = q.1 ++ q.2) ∧ Hid (∀ x ∈ q.1, x.f1 ≤ now) ∧ Hid (Sat w0 wr (rT v0 q.2 * (rD v6 q.1 * R)))) (fun v0 _ _ => lenV v0)
  case atStart => exact ⟨([], l), Lib.hid rfl, Lib.hid (by simp), HS⟩
  case round =>
    clear HS
    obtain ⟨⟨r1, r2⟩, HE, HA, HSi⟩ := hrel
    simp only at HE HA HSi
    have hrl : r2.length ≤ 1000 ∧ r1.length + r2.length = l.length := by
      have := congrArg List.length HE.out
      rw [List.length_append] at this
      have := HL.out
      omega
    have hl2 := HL.out
    obtain ⟨A, c, rfl, hc, -⟩ := Sat.row_C flatT rfl HSi.out
    have HA0 := Lib.hid (row_at HSi.out)
    cases r2 with
    | nil =>
      have HDS := Lib.hid (due_split HE.out HA.out (by simp))
      clear hrl
      go_wp2_with fail
      go_ret2
      exact ⟨_, _, rfl, by rw [HDS.out.1, HDS.out.2]; exact HSi.out⟩
    | cons x tl =>
      obtain ⟨g, e1, x0, x1⟩ := HSi.out.row_two (i := 0) (by simp : 0 < (x :: tl).length)
      subst e1
      obtain ⟨xk, xt⟩ := x
      simp only [List.getElem_cons_zero, Nat.zero_mul, Nat.zero_add] at x0 x1
      rw [List.length_cons] at hrl
      by_cases hnow : xt ≤ now
      · have d1 : decide (xt ≤ now) = true := decide_eq_true hnow
        have S2 := HSi.out.alloc (.cells #[.string xk] 9)
        have b0 := S2.blk
        obtain ⟨v9, wa, hr1, S3⟩ := S2.p3.run_append 32 32 Try.underlying32 tstrInfo rfl (by decide) ⟨wr.heap.size, 0, none⟩ 1 1 [.string xk] rfl
          (fun j y hj => by rw [Addr.add_lit, Nat.zero_add]; exact cell_of b0 j (by simpa using hj)) (by simp [Value.oneCell']) (by unfold maxLen; omega) (by omega)
        have S4 : Sat w0 wa (rT (.slice (some ⟨g, 0, none⟩) (⟨xk, xt⟩ :: tl : List Tm).length c) (⟨xk, xt⟩ :: tl) * (rD v9 (r1 ++ [⟨xk, xt⟩]) * R)) := S3.p2.drop1.p2.cong (by
          simp only [rD, List.map_append, List.length_append]; rfl)
        have S0 : Sat w0 wa (rT (.slice none 0 0) [] * (rT (.slice (some ⟨g, 0, none⟩) (⟨xk, xt⟩ :: tl : List Tm).length c) (⟨xk, xt⟩ :: tl) * (rD v9 (r1 ++ [⟨xk, xt⟩]) * R))) := S4.row_nil _ _
        obtain ⟨v8, wb, hr2, S5⟩ := tm_app (i := 1) (m := (⟨xk, xt⟩ :: tl : List Tm).length - 1) (A' := fromA (some ⟨g, 0, none⟩) c 1) (c' := c - 1) S0 (by simp; omega) (by simp; omega) (fromA_part hc HA0.out)
        have e5 : ([] : List Tm) ++ ((⟨xk, xt⟩ :: tl : List Tm).drop 1).take ((⟨xk, xt⟩ :: tl : List Tm).length - 1) = tl := by simp
        rw [e5] at S5
        have HS5 := Lib.hid S5.p2.drop1
        have hfr := tm_from (A := some ⟨g, 0, none⟩) (n := (⟨xk, xt⟩ :: tl : List Tm).length) (c := c) (i := 1) (k := 1) rfl (by simp)
        have HE2 : Hid (l = (r1 ++ [⟨xk, xt⟩]) ++ tl) := Lib.hid (by rw [HE.out]; simp)
        have HA2 : Hid (∀ x ∈ r1 ++ [(⟨xk, xt⟩ : Tm)], x.f1 ≤ now) := Lib.hid (fun y hy => by
          rcases List.mem_append.1 hy with hy | hy
          · exact HA.out y hy
          · rw [List.mem_singleton] at hy; subst hy; exact hnow)
        have hpos : decide ((0 : Int) < ((⟨xk, xt⟩ :: tl : List Tm).length : Int)) = true := decide_eq_true (by simp)
        obtain ⟨n2, hn2⟩ : ∃ n2, n2 = (⟨xk, xt⟩ :: tl : List Tm).length := ⟨_, rfl⟩
        have hn0 : 0 < n2 := by rw [hn2]; simp
        have hn00 : (0 : Int) < n2 := by omega
        obtain ⟨A8, c8, e8, -, -⟩ := Sat.row_C flatT rfl HS5.out
        have HN2 : Hid (n2 = tl.length + 1) := Lib.hid (by rw [hn2]; simp)
        rw [← hn2] at hr2 hfr hpos
        rw [← hn2]
        subst e8
        clear S0 S2 S3 S4 S5 b0 e5 hnow hrl hl2 hn2 HSi HA0 hc
        go_wp2_with (at_builtin; first | refine wpList_append_eq rfl _ _ _ _ rfl rfl rfl hr1 ?_ | refine wpList_append_eq rfl _ _ _ _ rfl rfl rfl hr2 ?_)
        go_roundw
        case rel => exact ⟨(r1 ++ [⟨xk, xt⟩], tl), HE2, HA2, HS5⟩
        case measure => simp [lenV]; have := HN2.out; omega
      · have d1 : decide (xt ≤ now) = false := decide_eq_false hnow
        have HDS := Lib.hid (due_split HE.out HA.out (fun y hy => by simp only [List.head?_cons, Option.some.injEq] at hy; subst hy; exact hnow))
        have hn00 : (0 : Int) < ((⟨xk, xt⟩ :: tl : List Tm).length : Int) := by simp
        clear hnow hrl hl2
        go_wp2_with fail
        go_ret2
        exact ⟨_, _, rfl, by rw [HDS.out.1, HDS.out.2]; exact HSi.out⟩
end Go.Sl
