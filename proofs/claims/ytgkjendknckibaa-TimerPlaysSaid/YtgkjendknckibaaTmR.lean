/-
  The document's answer for layer 11, by contract: Drop, Set, Due.
-/
import Derived.Test.YtgkjendknckibaaLawTmL
import Derived.Test.YtgkjendknckibaaAp
import Derived.Deep.RegionLaw
namespace Go.Sl
open Go.RowKit Go.Proofs Go.Proofs.YtgkjendknckibaaW.PrintWords Go.Proofs.Ytgkjendknckibaa.PTim
set_option linter.unusedVariables false
set_option linter.unusedSimpArgs false
set_option maxRecDepth 100000
/-- append, its run being known, as one step of a region that draws. -/
theorem step_append_eq {P : Program} {ops : Array Oper} {o : Oper} {a : Act} {w w' : World} {K : Act → World → Prop} {Q : Exit → Act → World → Prop} {E : Prop}
    (hg : o.guard = none) (s x : Operand) (t u : TypeId) (hop : o.op = .call { callee := .builtin .append, args := #[s, x], argTypes := #[t, u] }) {v y v' : Value} (hs : a.eval s = v) (hx : a.eval x = y)
    (hr : (Builtin.append_ #[t, u] o.type #[v, y]).run P w = .ok v' w') (hK : K (a.put o.dst v') w') : if Region.wanted o (yielded ops a.tmps) = true then Oper.wp P o a w K Q else E := by
  have hw : Region.wanted o (yielded ops a.tmps) = true := by simp [Region.wanted, hg]
  rw [if_pos hw]
  unfold Oper.wp
  simp [execOp, hop, resolve, invoke, builtin, hs, hx, hr, Result.andThen]
  exact hK
abbrev rT (v : Value) (l : List Tm) : HP := row 36 2 v l.length (l.flatMap encT)
theorem flat_drop : ∀ (hs : List Tm) (m : Nat), (hs.flatMap encT).drop (m * 2) = (hs.drop m).flatMap encT
  | [], m => by simp
  | x :: hs, 0 => by simp
  | x :: hs, m + 1 => by
    rw [List.flatMap_cons, List.drop_succ_cons, show (m + 1) * 2 = m * 2 + 1 + 1 from by omega, ← flat_drop hs m]
    rfl
/-- 'append(v, a part of l...)'. -/
theorem tm_app {w0 w : World} {v : Value} {xs l : List Tm} {A A' : Option Addr} {c c' i m : Nat} {R : HP} (S : Sat w0 w (rT v xs * (rT (.slice A l.length c) l * R))) (him : i + m ≤ l.length) (hsz : xs.length + m ≤ 1000000)
    (hA : 0 < m → ∃ g, A = some ⟨g, 0, none⟩ ∧ A' = some ⟨g, i * 2, none⟩) :
    ∃ v' w', (Builtin.append_ #[30, 30] 30 #[v, .slice A' m c']).run Try.prog w = .ok v' w' ∧ Sat w0 w' (rT v' (xs ++ (l.drop i).take m) * (rT (.slice A l.length c) l * R)) := by
  by_cases hm : m = 0
  · subst hm
    cases A' with
    | none =>
      obtain ⟨j, hi, _⟩ := info_parts tmInfo
      obtain ⟨_, h'⟩ := S.row_open
      rcases h' with ⟨rfl, _, _, _⟩ | ⟨g, cap, cur, rfl, hn, _, _, _, _⟩
      · exact ⟨_, w, run_append_nil _ Try.underlying30 hi (Nat.le_refl _) w, by rw [List.take_zero, List.append_nil]; exact S⟩
      · exact ⟨_, w, run_append_nil _ Try.underlying30 hi hn w, by rw [List.take_zero, List.append_nil]; exact S⟩
    | some a =>
      obtain ⟨v', w', hr, S'⟩ := S.run_append 30 30 Try.underlying30 tmInfo rfl (by decide) a 0 c' [] rfl (fun j u hj => by simp at hj) (by simp) (by unfold maxLen; omega) (by omega)
      exact ⟨v', w', hr, by rw [List.take_zero, List.append_nil]; exact S'.cong (by rw [Nat.add_zero, List.append_nil])⟩
  · obtain ⟨g, rfl, rfl⟩ := hA (by omega)
    have hll : ((l.drop i).take m).length = m := by rw [List.length_take, List.length_drop]; omega
    have hl : (((l.drop i).take m).flatMap encT).length = m * 2 := by
      have := flat_length flatT ((l.drop i).take m)
      rw [hll] at this
      exact this
    have hnews : ∀ j u, (((l.drop i).take m).flatMap encT)[j]? = some u → w.cell? ((⟨g, i * 2, none⟩ : Addr).add j) = some u := fun j u hj => by
      rw [← flat_take, ← flat_drop, List.getElem?_take] at hj
      split at hj
      · rw [List.getElem?_drop] at hj
        obtain ⟨g', e1, hc⟩ := S.p2.row_cells (i * 2 + j) u hj
        injection e1 with e1
        injection e1 with e1
        subst e1
        rw [Addr.add_lit]
        exact hc
      · cases hj
    obtain ⟨v', w', hr, S'⟩ := S.run_append 30 30 Try.underlying30 tmInfo rfl (by decide) ⟨g, i * 2, none⟩ m c' _ hl hnews (flat_one _) (by unfold maxLen; omega) (by omega)
    exact ⟨v', w', hr, S'.cong (by simp only [rT, List.flatMap_append, List.length_append, hll])⟩
/-- 'l[i:]'. -/
abbrev fromA (A : Option Addr) (c i : Nat) : Option Addr := if c = i then A else A.map (·.add (i * 2))
theorem tm_from {A : Option Addr} {n c i : Nat} {k : Int} (hk : k = (i : Int)) (hi : i ≤ n) (W : World) :
    (Instr.slice 30 (.slice A n c) (some (.int .i64 k)) none none).run Try.prog W = .ok (.slice (fromA A c i) (n - i) (c - i)) W := by
  subst hk
  obtain ⟨j, hj, _, hz, _⟩ := info_parts tmInfo
  rw [run_slice_from Try.underlying30 hj A n c i (by omega) (by omega) W, hz]
  rfl
theorem tm_to {A : Option Addr} {n c i : Nat} (hi : i ≤ n) (hc : n ≤ c) (hA : 0 < n → ∃ g, A = some ⟨g, 0, none⟩) (W : World) :
    (Instr.slice 30 (.slice A n c) none (some (.int .i64 i)) none).run Try.prog W = .ok (.slice A i c) W := by
  obtain ⟨j, hj, _, hz, _⟩ := info_parts tmInfo
  have h1 : (i : Int) ≤ c := by omega
  have h2 : (A.map fun x : Addr => x.add 0) = A := by cases A <;> simp [Addr.add]
  simp [Instr.slice, Instr.sliceBounds, Instr.sliceBound, asIntOf, run_underlying Try.underlying30, sizeOf, typeInfo, hj, Result.andThen, h1, h2, show i ≤ c by omega]
theorem fromA_part {l : List Tm} {A : Option Addr} {c i : Nat} (hc : l.length ≤ c) (hA : 0 < l.length → ∃ g, A = some ⟨g, 0, none⟩) : 0 < l.length - i → ∃ g, A = some ⟨g, 0, none⟩ ∧ fromA A c i = some ⟨g, i * 2, none⟩ := fun h => by
  obtain ⟨g, rfl⟩ := hA (by omega)
  refine ⟨g, rfl, ?_⟩
  unfold fromA
  rw [if_neg (by omega)]
  simp [Addr.add_lit]
theorem row_at {w0 w : World} {A : Option Addr} {m c : Nat} {l : List Tm} {R : HP} (S : Sat w0 w (rT (.slice A m c) l * R)) : 0 < l.length → ∃ g, A = some ⟨g, 0, none⟩ := fun h => by
  obtain ⟨g, e, _⟩ := S.row_two h
  exact ⟨g, e⟩
theorem findT_first {l : List Tm} {key : ByteArray} {i : Nat} (h : i < l.length) (hb : ∀ j (hj : j < l.length), j < i → l[j].f0 ≠ key) (he : l[i].f0 = key) : findT l key = some l[i] := by
  have : l = l.take i ++ l[i] :: l.drop (i + 1) := by rw [← List.drop_eq_getElem_cons h, List.take_append_drop]
  rw [show findT l key = findT (l.take i ++ l[i] :: l.drop (i + 1)) key from congrArg (fun z => findT z key) this]
  unfold findT
  rw [List.find?_append, List.find?_eq_none.2 (fun y hy => ?_)]
  · rw [List.find?_cons_of_pos (by simpa using he)]; rfl
  · obtain ⟨j, hj, rfl⟩ := List.mem_take_iff_getElem.1 hy
    simpa using hb j (by omega) (by omega)
set_option maxHeartbeats 8000000 in
/-- 'R.Drop'. -/
theorem rDrop {w0 w : World} {v : Value} {l : List Tm} {key : ByteArray} {R : HP} (hl : l.length ≤ 1000) (hk : keysOk l) (S : Sat w0 w (rT v l * R)) :
    Calls Try.prog 23 #[v, .string key] w fun en w' => ∃ v', en = .returned (.tuple #[v', .bool (findT l key).isSome]) ∧ Sat w0 w' (rT v' (lessT l key) * R) := by
  obtain ⟨A, c, rfl, hc, -⟩ := Sat.row_C flatT rfl S
  have HA := Lib.hid (row_at S)
  have HS := Lib.hid S
  have HK := Lib.hid hk
  clear S hk
  go_enter Try.func23, Try.ntmps23
  go_wp2_with fail
  go_loopw [6] (fun v6 wr => ∃ i : Nat, v6 = .int .i64 i ∧ i ≤ l.length ∧ Hid (∀ j (h : j < l.length), j < i → l[j].f0 ≠ key) ∧ Hid (Sat w0 wr (rT (.slice A l.length c) l * R))) (fun v6 _ => l.length - (RowKit.intOf v6).toNat)
  case atStart => exact ⟨0, rfl, by omega, Lib.hid (fun j _ h => absurd h (by omega)), HS⟩
  case round =>
    clear HS
    obtain ⟨i, rfl, hi, HB, HSi⟩ := hrel
    by_cases hlt : i < l.length
    · obtain ⟨g, e1, x0, x1⟩ := HSi.out.row_two hlt
      subst e1
      by_cases he : l[i].f0 = key
      · have HF := Lib.hid (findT_first hlt HB.out he)
        have HL : Hid (lessT l key = l.take i ++ (l.drop (i + 1)).take (l.length - (i + 1))) := Lib.hid (by
          rw [show (l.drop (i + 1)).take (l.length - (i + 1)) = l.drop (i + 1) from List.take_of_length_le (by simp)]
          have e : l = l.take i ++ l[i] :: l.drop (i + 1) := by rw [← List.drop_eq_getElem_cons hlt, List.take_append_drop]
          have hk := HK.out
          unfold keysOk at hk
          rw [e] at hk
          rw [show lessT l key = lessT (l.take i ++ l[i] :: l.drop (i + 1)) key from congrArg (fun z => lessT z key) e, ← he]
          exact lessT_split hk)
        have S0 : Sat w0 wr.drew (rT (.slice none 0 0) [] * (rT (.slice (some ⟨g, 0, none⟩) l.length c) l * R)) := HSi.out.drew.row_nil _ _
        obtain ⟨v1, w1, hr1, S1⟩ := tm_app (i := 0) (m := i) (A' := some ⟨g, 0, none⟩) (c' := c) S0 (by omega) (by simp; omega) (fun _ => ⟨g, rfl, by simp⟩)
        obtain ⟨v2, w2, hr2, S2⟩ := tm_app (i := i + 1) (m := l.length - (i + 1)) (A' := fromA (some ⟨g, 0, none⟩) c (i + 1)) (c' := c - (i + 1)) S1 (by omega) (by simp; omega) (fromA_part hc HA.out)
        have hto := tm_to (i := i) (by omega) hc HA.out
        have hfr := tm_from (A := some ⟨g, 0, none⟩) (n := l.length) (c := c) (i := i + 1) (k := (i : Int) + 1) (by omega) (by omega)
        have hw1 : IntKind.i64.wrap ((i : Int) + 1) = (i : Int) + 1 := by
          simp [IntKind.wrap, IntKind.signed, IntKind.bits]; omega
        have HS2 := Lib.hid S2
        rw [he] at x0
        clear S0 S1 S2 he x1
        go_wp2_with fail
        go_region_law ((first | refine step_append_eq (by rfl) _ _ _ _ (by rfl) (by rfl) (by rfl) hr1 ?_ | refine step_append_eq (by rfl) _ _ _ _ (by rfl) (by rfl) (by rfl) hr2 ?_))
        clear hto hfr hr1 hr2 hw1
        go_wp2_with fail
        go_ret2
        exact ⟨v2, by rw [HF.out]; rfl, HS2.out.p2.drop1.cong (by rw [HL.out]; simp)⟩
      · have hq : (l[i].f0.toList == key.toList) = false := beq_eq_false_iff_ne.2 (fun h => he (toList_inj.1 h))
        have HB2 : Hid (∀ j (h : j < l.length), j < i + 1 → l[j].f0 ≠ key) := Lib.hid (fun j h hj => by
          by_cases e : j = i
          · subst e; exact he
          · exact HB.out j h (by omega))
        clear he
        go_wp2_with fail
        go_roundw
        case rel => exact ⟨i + 1, by simp, by omega, HB2, HSi⟩
        case measure => simp [RowKit.intOf]; omega
    · have hi2 : i = l.length := by omega
      subst hi2
      have HF : Hid (findT l key = none) := Lib.hid (List.find?_eq_none.2 fun y hy => by
        obtain ⟨j, hj, rfl⟩ := List.mem_iff_getElem.1 hy
        simpa using HB.out j hj hj)
      clear hlt hi
      go_wp2_with fail
      go_ret2
      exact ⟨_, by rw [HF.out]; rfl, by rw [lessT_none HF.out]; exact HSi.out⟩
end Go.Sl
