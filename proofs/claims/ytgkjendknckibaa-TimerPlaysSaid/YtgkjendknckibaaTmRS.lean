/-
  The document's answer for layer 11, by contract: Set.
-/
import Derived.Test.YtgkjendknckibaaTmR
namespace Go.Sl
open Go.RowKit Go.Proofs Go.Proofs.YtgkjendknckibaaW.PrintWords Go.Proofs.Ytgkjendknckibaa.PTim
set_option linter.unusedVariables false
set_option linter.unusedSimpArgs false
set_option maxRecDepth 100000
theorem isNone_not {α : Type} (o : Option α) : o.isNone = !o.isSome := by cases o <;> rfl
theorem insT_at {m : List Tm} {x : Tm} {i : Nat} (hi : i ≤ m.length) (h1 : ∀ j (h : j < m.length), j < i → ltT m[j] x = true) (h2 : ∀ h : i < m.length, ltT m[i] x = false) : insT m x = m.take i ++ x :: m.drop i := by
  have e : m = m.take i ++ m.drop i := (List.take_append_drop i m).symm
  have a : ∀ y ∈ m.take i, ltT y x = true := fun y hy => by
    obtain ⟨j, hj, rfl⟩ := List.mem_take_iff_getElem.1 hy
    exact h1 j (by omega) (by omega)
  have b : (m.drop i).takeWhile (fun y => ltT y x) = [] ∧ (m.drop i).dropWhile (fun y => ltT y x) = m.drop i := by
    by_cases h : i < m.length
    · rw [List.drop_eq_getElem_cons h]
      exact ⟨List.takeWhile_cons_of_neg (by rw [h2 h]; decide), List.dropWhile_cons_of_neg (by rw [h2 h]; decide)⟩
    · rw [List.drop_of_length_le (by omega)]; exact ⟨rfl, rfl⟩
  rw [show insT m x = insT (m.take i ++ m.drop i) x from congrArg (fun z => insT z x) e]
  unfold insT
  rw [List.takeWhile_append_of_pos a, List.dropWhile_append_of_pos a, b.1, b.2, List.append_nil]
set_option maxHeartbeats 8000000 in
/-- 'R.Set'. -/
theorem rSet {w0 w : World} {v : Value} {l : List Tm} {key : ByteArray} {t : Int} {R : HP} (hl : l.length ≤ 1000) (hk : keysOk l) (S : Sat w0 w (rT v l * R)) :
    Calls Try.prog 21 #[v, .string key, .int .i64 t] w fun en w' => ∃ v', en = .returned (.tuple #[v', .bool (!(findT l key).isSome)]) ∧ Sat w0 w' (rT v' (setL l key t) * R) := by
  have HS := Lib.hid S
  have HK := Lib.hid hk
  have HL := Lib.hid hl
  clear S hk hl
  go_enter Try.func21, Try.ntmps21
  go_wp2_with fail
  refine (rDrop HL.out HK.out HS.out).mono ?_
  rintro en w1 ⟨v1, rfl, S1⟩
  obtain ⟨A, c, rfl, hc, -⟩ := Sat.row_C flatT rfl S1
  obtain ⟨m, hm⟩ : ∃ m, m = lessT l key := ⟨_, rfl⟩
  have hml : m.length ≤ 1000 := by rw [hm]; exact Nat.le_trans (List.length_filter_le _ _) HL.out
  rw [← hm] at S1 hc
  have HM := Lib.hid hm
  have HA := Lib.hid (row_at S1)
  have HS1 := Lib.hid S1
  rw [← hm]
  clear S1 hm HS
  go_wp2_with fail
  obtain ⟨x, hx⟩ : ∃ x : Tm, x = ⟨key, t⟩ := ⟨_, rfl⟩
  have HX := Lib.hid hx
  clear hx
  go_loopw [9] (fun v9 wr => ∃ i : Nat, v9 = .int .i64 i ∧ i ≤ m.length ∧ Hid (∀ j (h : j < m.length), j < i → ltT m[j] x = true) ∧ Hid (Sat w0 wr (rT (.slice A m.length c) m * R))) (fun v9 _ => m.length - (RowKit.intOf v9).toNat)
  case atStart => exact ⟨0, rfl, by omega, Lib.hid (fun j _ h => absurd h (by omega)), HS1⟩
  case round =>
    clear HS1
    obtain ⟨i, rfl, hi, HB, HSi⟩ := hrel
    by_cases hgo : ∃ h : i < m.length, ltT m[i] x = true
    · obtain ⟨hlt, hb⟩ := hgo
      have HB2 : Hid (∀ j (h : j < m.length), j < i + 1 → ltT m[j] x = true) := Lib.hid (fun j h hj => by
        by_cases e : j = i
        · subst e; exact hb
        · exact HB.out j h (by omega))
      obtain ⟨g, e1, x0, x1⟩ := HSi.out.row_two hlt
      subst e1
      obtain ⟨pk, hpk⟩ : ∃ pk, pk = m[i].f0 := ⟨_, rfl⟩
      obtain ⟨pt', hpt⟩ : ∃ pt', pt' = m[i].f1 := ⟨_, rfl⟩
      unfold ltT at hb
      rw [HX.out] at hb
      simp only at hb
      rw [← hpk, ← hpt] at hb
      rw [← hpk] at x0
      rw [← hpt] at x1
      by_cases h1 : pt' < t
      case' pos =>
        have d1 : decide (pt' < t) = true := decide_eq_true h1
        clear hb h1 hpk hpt
        go_wp2_with fail
      case' neg =>
        have d1 : decide (pt' < t) = false := decide_eq_false h1
        rw [d1, Bool.false_or, Bool.and_eq_true] at hb
        obtain ⟨d2, d3⟩ := hb
        clear h1 hpk hpt
        go_wp2_with fail
      all_goals
        go_roundw
        case rel => exact ⟨i + 1, by simp, by omega, HB2, HSi⟩
        case measure => simp [RowKit.intOf]; omega
    · have hstop : ∀ h : i < m.length, ltT m[i] x = false := fun h => by
        cases e : ltT m[i] x with
        | true => exact absurd ⟨h, e⟩ hgo
        | false => rfl
      have HI : Hid (setL l key t = m.take i ++ x :: m.drop i) := Lib.hid (by
        unfold setL
        rw [← HM.out, ← HX.out]
        exact insT_at hi HB.out hstop)
      clear hgo
      have S0 : Sat w0 wr (rT (.slice none 0 0) [] * (rT (.slice A m.length c) m * R)) := HSi.out.row_nil _ _
      obtain ⟨v2, wa, hr1, S1⟩ := tm_app (i := 0) (m := i) (A' := A) (c' := c) S0 (by omega) (by simp; omega) (fun h => by
        obtain ⟨g, e⟩ := HA.out (by omega)
        exact ⟨g, e, by rw [e, Nat.zero_mul]⟩)
      have S2 := S1.alloc (.cells #[.string key, .int .i64 t] 36)
      have b0 := S2.blk
      obtain ⟨v3, wb, hr2, S3⟩ := (S2.p2).run_append 30 30 Try.underlying30 tmInfo rfl (by decide) ⟨wa.heap.size, 0, none⟩ 1 1 [.string key, .int .i64 t] rfl
        (fun j y hj => by rw [Addr.add_lit, Nat.zero_add]; exact cell_of b0 j (by simpa using hj)) (by simp [Value.oneCell']) (by simp; unfold maxLen; omega) (by simp; omega)
      have S3' : Sat w0 wb (rT v3 (m.take i ++ [x]) * (rT (.slice A m.length c) m * R)) := S3.p2.drop1.cong (by
        rw [HX.out, List.nil_append, List.drop_zero]; simp only [rT, List.flatMap_append, List.length_append]; rfl)
      obtain ⟨v4, wc, hr3, S4⟩ := tm_app (i := i) (m := m.length - i) (A' := fromA A c i) (c' := c - i) S3' (by omega) (by simp; omega) (fromA_part hc HA.out)
      have hto := tm_to (i := i) hi hc HA.out
      have hfr := tm_from (A := A) (n := m.length) (c := c) (i := i) (k := (i : Int)) rfl hi
      have e4 : m.take i ++ [x] ++ (m.drop i).take (m.length - i) = setL l key t := by
        rw [HI.out, show (m.drop i).take (m.length - i) = m.drop i from List.take_of_length_le (by simp), List.append_assoc]; rfl
      rw [e4] at S4
      have HS4 : Hid (Sat w0 wc (rT v4 (setL l key t) * R)) := Lib.hid S4.p2.drop1
      clear e4
      clear S0 S1 S2 S3 S3' S4 b0
      by_cases hlt : i < m.length
      case' pos =>
        have hb := hstop hlt
        obtain ⟨g, e1, x0, x1⟩ := HSi.out.row_two hlt
        subst e1
        obtain ⟨pk, hpk⟩ : ∃ pk, pk = m[i].f0 := ⟨_, rfl⟩
        obtain ⟨pt', hpt⟩ : ∃ pt', pt' = m[i].f1 := ⟨_, rfl⟩
        unfold ltT at hb
        rw [HX.out] at hb
        simp only at hb
        rw [← hpk, ← hpt] at hb
        rw [← hpk] at x0
        rw [← hpt] at x1
        rw [Bool.or_eq_false_iff] at hb
        obtain ⟨d1, hb2⟩ := hb
        cases d2 : (pt' == t)
        case' true =>
          rw [d2, Bool.true_and] at hb2
          clear hpk hpt hstop
          go_upto_region 5 with (fail)
          clear x0 x1 d1 d2 hb2
        case' false =>
          clear hpk hpt hstop hb2
          go_upto_region 5 with (fail)
          clear x0 x1 d1 d2
      case' neg =>
        have d1 : decide (i < m.length) = false := decide_eq_false hlt
        have d1i : decide ((i : Int) < m.length) = false := decide_eq_false (by omega)
        clear hlt hstop
        go_upto_region 5 with (fail)
        clear d1 d1i
      all_goals
        go_wp2_with (at_builtin; first | refine wpList_append_eq rfl _ _ _ _ rfl rfl rfl hr1 ?_ | refine wpList_append_eq rfl _ _ _ _ rfl rfl rfl hr2 ?_ | refine wpList_append_eq rfl _ _ _ _ rfl rfl rfl hr3 ?_)
        go_ret2
        exact ⟨v4, by rw [← isNone_not]; rfl, HS4.out⟩
end Go.Sl
