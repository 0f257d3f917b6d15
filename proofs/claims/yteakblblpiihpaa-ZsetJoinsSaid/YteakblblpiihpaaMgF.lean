/-
  The document's answer for layers 10 and 19, by contract: Put, Score, ZSet.
  One row appended to another. Over any program.
  The document's answer for layers 10, 19 and 24, its printed functions in plain words; a made row of pairs is an owned one.
-/
import Derived.Test.YteakblblpiihpaaMgE
import Derived.Test.YteakblblpiihpaaMgA
import Derived.Deep.RegionWith
import Derived.Deep.RegionHeld3
/-! ### RzP -/
namespace Go.Sl
open Go.RowKit Go.Proofs Go.Proofs.YteakblblpiihpaaW.PrintWords Go.Proofs.Yteakblblpiihpaa.PZs Go.Sl.DI64
set_option linter.unusedVariables false
set_option linter.unusedSimpArgs false
set_option maxRecDepth 100000

theorem reps_flatS : ∀ (xs : List Sc) (cs : List Value), cs.length = xs.length * 2 → (∀ j p, xs[j]? = some p → (cs.drop (j * 2)).take 2 = encS p) → cs = xs.flatMap encS
  | [], cs, hl, _ => by simpa using hl
  | x :: xs, cs, hl, h => by
    have h0 := h 0 x rfl
    simp only [Nat.zero_mul, List.drop_zero] at h0
    rw [List.flatMap_cons, ← h0, ← reps_flatS xs (cs.drop 2) (by simp at hl ⊢; omega) (fun j p hj => by
      rw [List.drop_drop]
      have := h (j + 1) p (by simpa using hj)
      rw [show 2 + j * 2 = (j + 1) * 2 by omega]
      exact this), List.take_append_drop]
/-- A row of pairs that a call made. -/
theorem Sat.rS_keep {w0 w w' : World} {v : Value} {r : List Sc} {A : HP} {ok : Nat → Prop} (S : Sat w0 w A) (hb : Below w.heap.size w w') (h : Kd.R k30 30 w' w.heap.size ok v r) : Sat w0 w' (rS v r * A) := by
  obtain ⟨_, cs, ⟨hl, ho⟩, hr⟩ := h
  have e : cs = r.flatMap encS := reps_flatS r cs hl (fun j p hj => by
    obtain ⟨a, b, e1, ha, hb'⟩ := hr.2 j p hj
    rw [show (cs.drop (j * 2)).take 2 = a ++ b from e1, show a = [.string p.f0] from ha, show b = [.int .i64 p.f1] from hb']
    rfl)
  subst e
  have S' := S.below hb
  rcases ho with ⟨rfl, h0⟩ | ⟨g, cap, cur, rfl, hge, hblk, hn, hm, hs, ht⟩
  · have : r = [] := List.eq_nil_of_length_eq_zero h0
    subst this
    exact S'.row_nil _ _
  · refine Sat.row_shut hl hn hm hs ht ?_
    obtain ⟨k, hk, hw⟩ := S.has
    obtain ⟨k', hk', hw'⟩ := S'.has
    refine S'.env rfl rfl rfl (Nat.le_refl _) ⟨fun b => if b = g then some (.cells cur 30 (0, 0)) else k b, ⟨fun b => if b = g then some (.cells cur 30 (0, 0)) else none, k, fun b => ?_, fun b => ?_, rfl, hk⟩, fun b o ho => ?_⟩
    · by_cases eb : b = g
      · right
        cases hkb : k b with
        | none => rfl
        | some o => exact absurd (Array.getElem?_eq_some_iff.1 (hw b o hkb)).1 (by omega)
      · left; simp [eb]
    · by_cases eb : b = g <;> simp [eb]
    · by_cases eb : b = g
      · simp [eb] at ho; subst ho; rw [eb]; exact hblk
      · simp [eb] at ho
        have := hw b o ho
        exact (hb.block b (Array.getElem?_eq_some_iff.1 this).1).trans this
theorem ahead_l0 {l : List Sc} {x : Sc} (h : l.Pairwise fun a b => ltS a b = true) (hs : l.length ≤ 1000000) : ∀ (d k : Nat) (i n : Nat), l.length - i = d → d < k → i ≤ l.length → n ≤ i →
    mewsref10_Ahead.l0 k l n i x.f0 x.f1 = some (((n + ((l.drop i).takeWhile fun y => ltS y x).length : Nat)) : Int) := by
  intro d
  induction d with
  | zero =>
    intro k i n hd hk hi hn
    obtain ⟨k, rfl⟩ : ∃ m, k = m + 1 := ⟨k - 1, by omega⟩
    simp only [mewsref10_Ahead.l0]
    rw [if_neg (by omega), List.drop_of_length_le (by omega)]
    rfl
  | succ d ih =>
    intro k i n hd hk hi hn
    obtain ⟨k, rfl⟩ : ∃ m, k = m + 1 := ⟨k - 1, by omega⟩
    have h1 : i < l.length := by omega
    simp only [mewsref10_Ahead.l0]
    rw [if_pos (by omega), if_pos (by omega), rdS_at l i h1, lessZ_f, List.drop_eq_getElem_cons h1]
    simp only [Option.bind_some]
    by_cases e : ltS l[i] x = true
    · rw [if_pos e, wrap_upZ (n := l.length) (by omega) (by omega), wrap_upZ h1 (by omega), ih k (i + 1) (n + 1) (by omega) (by omega) (by omega) (by omega), List.takeWhile_cons_of_pos (by simpa using e)]
      simp only [List.length_cons]
      congr 2
      omega
    · rw [if_neg e, wrap_upZ h1 (by omega), ih k (i + 1) n (by omega) (by omega) (by omega) (by omega), List.takeWhile_cons_of_neg (by simpa using e)]
      -- none of those behind is ahead
      have hp := h
      rw [show l = l.take i ++ l[i] :: l.drop (i + 1) by rw [← List.drop_eq_getElem_cons h1, List.take_append_drop], List.pairwise_append, List.pairwise_cons] at hp
      cases hd2 : l.drop (i + 1) with
      | nil => rfl
      | cons y ys =>
        have hy : ltS l[i] y = true := hp.2.1.1 y (by rw [hd2]; simp)
        have : ltS y x = false := by
          cases hq : ltS y x with
          | false => rfl
          | true => exact absurd (ltS_trans hy hq) e
        rw [List.takeWhile_cons_of_neg (by simp [this])]
theorem ahead_f {l : List Sc} {x : Sc} (h : l.Pairwise fun a b => ltS a b = true) (hs : l.length ≤ 1000000) : mewsref10_Ahead.f (l.length + 1) l x.f0 x.f1 = some (((l.takeWhile fun y => ltS y x).length : Nat) : Int) := by
  unfold mewsref10_Ahead.f
  have := ahead_l0 (x := x) h hs l.length (l.length + 1) 0 0 (by omega) (by omega) (by omega) (by omega)
  simpa using this
theorem rank_l0 {l : List Sc} {x : Sc} (h : ∀ y ∈ l, y.f0 ≠ x.f0) (hs : l.length ≤ 1000000) : ∀ (d k : Nat) (i : Nat), l.length - i = d → d < k → i ≤ l.length → mewsref10_Rank.l0 k l i x.f0 x.f1 = some (-1) := by
  intro d
  induction d with
  | zero =>
    intro k i hd hk hi
    obtain ⟨k, rfl⟩ : ∃ m, k = m + 1 := ⟨k - 1, by omega⟩
    simp only [mewsref10_Rank.l0]
    rw [if_neg (by omega)]
  | succ d ih =>
    intro k i hd hk hi
    obtain ⟨k, rfl⟩ : ∃ m, k = m + 1 := ⟨k - 1, by omega⟩
    have h1 : i < l.length := by omega
    have hq : (l[i].f0.toList == x.f0.toList) = false := beq_eq_false_iff_ne.2 (fun e => h _ (List.getElem_mem h1) (toList_injZ.1 e))
    simp only [mewsref10_Rank.l0]
    rw [if_pos (by omega), if_pos (by omega), rdS_at l i h1, hq, if_neg (by simp), wrap_upZ h1 (by omega), ih k (i + 1) (by omega) (by omega) (by omega)]
theorem rank_f {l : List Sc} {x : Sc} (h : ∀ y ∈ l, y.f0 ≠ x.f0) (hs : l.length ≤ 1000000) : mewsref10_Rank.f (l.length + 1) l x.f0 x.f1 = some (-1) := rank_l0 h hs l.length (l.length + 1) 0 (by omega) (by omega) (by omega)
theorem out_l0 {l : List Sc} {m : ByteArray} (hs : l.length ≤ 1000000) : ∀ (d k : Nat) (i : Nat) (o : List Sc), l.length - i = d → d < k → i ≤ l.length → o.length ≤ i → mewsref19_Out.l0 k l m o i = some (o ++ outS (l.drop i) m) := by
  intro d
  induction d with
  | zero =>
    intro k i o hd hk hi ho
    obtain ⟨k, rfl⟩ : ∃ m, k = m + 1 := ⟨k - 1, by omega⟩
    simp only [mewsref19_Out.l0]
    rw [if_neg (by omega), List.drop_of_length_le (by omega)]
    simp [outS]
  | succ d ih =>
    intro k i o hd hk hi ho
    obtain ⟨k, rfl⟩ : ∃ m, k = m + 1 := ⟨k - 1, by omega⟩
    have h1 : i < l.length := by omega
    simp only [mewsref19_Out.l0]
    rw [if_pos (by omega), if_pos (by omega), rdS_at l i h1, List.drop_eq_getElem_cons h1, wrap_upZ h1 (by omega)]
    by_cases e : l[i].f0 = m
    · rw [if_pos (toList_injZ.2 e), ih k (i + 1) o (by omega) (by omega) (by omega) (by omega)]
      unfold outS
      rw [List.filter_cons_of_neg (by simpa using e)]
    · rw [if_neg (fun h => e (toList_injZ.1 h)), if_pos (by omega), ih k (i + 1) _ (by omega) (by omega) (by omega) (by simp; omega)]
      unfold outS
      rw [List.filter_cons_of_pos (by simpa using e)]
      simp
theorem out_f {l : List Sc} (m : ByteArray) (hs : l.length ≤ 1000000) : mewsref19_Out.f (l.length + 1) l m = some (outS l m) := by
  unfold mewsref19_Out.f
  have := out_l0 (m := m) hs l.length (l.length + 1) 0 [] (by omega) (by omega) (by omega) (by simp)
  simpa using this
theorem score_l0 {l : List Sc} {m : ByteArray} (hs : l.length ≤ 1000000) : ∀ (d k : Nat) (i : Nat), l.length - i = d → d < k → i ≤ l.length → mewsref24_Score.l0 k l m i = some ((findS (l.drop i) m).getD 0, (findS (l.drop i) m).isSome) := by
  intro d
  induction d with
  | zero =>
    intro k i hd hk hi
    obtain ⟨k, rfl⟩ : ∃ m, k = m + 1 := ⟨k - 1, by omega⟩
    simp only [mewsref24_Score.l0]
    rw [if_neg (by omega), List.drop_of_length_le (by omega)]
    rfl
  | succ d ih =>
    intro k i hd hk hi
    obtain ⟨k, rfl⟩ : ∃ m, k = m + 1 := ⟨k - 1, by omega⟩
    have h1 : i < l.length := by omega
    simp only [mewsref24_Score.l0]
    rw [if_pos (by omega), if_pos (by omega), rdS_at l i h1, List.drop_eq_getElem_cons h1, wrap_upZ h1 (by omega)]
    by_cases e : l[i].f0 = m
    · rw [if_pos (toList_injZ.2 e)]
      unfold findS
      rw [List.find?_cons_of_pos (by simpa using e)]
      rfl
    · rw [if_neg (fun h => e (toList_injZ.1 h)), ih k (i + 1) (by omega) (by omega) (by omega)]
      unfold findS
      rw [List.find?_cons_of_neg (by simpa using e)]
theorem score_f {l : List Sc} (m : ByteArray) (hs : l.length ≤ 1000000) : mewsref24_Score.f (l.length + 1) l m = some ((findS l m).getD 0, (findS l m).isSome) := by
  unfold mewsref24_Score.f
  have := score_l0 (m := m) hs l.length (l.length + 1) 0 (by omega) (by omega) (by omega)
  simpa using this
theorem turned_l0 {l : List Sc} (hs : l.length ≤ 1000000) : ∀ (i k : Nat) (o : List Sc), i ≤ l.length → i < k → o.length + i ≤ 1000000 → mewsref24_Turned.l0 k l o ((i : Int) - 1) = some (o ++ (l.take i).reverse) := by
  intro i
  induction i with
  | zero =>
    intro k o hi hk ho
    obtain ⟨k, rfl⟩ : ∃ m, k = m + 1 := ⟨k - 1, by omega⟩
    simp only [mewsref24_Turned.l0]
    rw [if_neg (by omega)]
    simp
  | succ i ih =>
    intro k o hi hk ho
    obtain ⟨k, rfl⟩ : ∃ m, k = m + 1 := ⟨k - 1, by omega⟩
    have e : ((i + 1 : Nat) : Int) - 1 = (i : Int) := by omega
    have ew : wrap64 ((i : Int) - 1) = (i : Int) - 1 := by unfold wrap64; omega
    simp only [mewsref24_Turned.l0]
    rw [e, if_pos (by omega), if_pos (by omega), if_pos (by omega), if_pos (by omega), rdS_at l i (by omega), ew, ih k _ (by omega) (by omega) (by simp; omega)]
    have e2 : l.take (i + 1) = l.take i ++ [l[i]] := by rw [List.take_add_one, List.getElem?_eq_getElem (by omega)]; rfl
    rw [e2, List.reverse_append]
    simp
theorem turned_f {l : List Sc} (hs : l.length ≤ 1000000) : mewsref24_Turned.f (l.length + 1) l = some l.reverse := by
  unfold mewsref24_Turned.f
  have ew : wrap64 ((l.length : Int) - 1) = (l.length : Int) - 1 := by unfold wrap64; omega
  have := turned_l0 hs l.length (l.length + 1) [] (Nat.le_refl _) (by omega) (by simpa using hs)
  rw [ew, this]
  simp
end Go.Sl
/-! ### Ap -/
namespace Go.Sl
open Go.RowKit
set_option linter.unusedVariables false
set_option linter.unusedSimpArgs false
section
variable {w0 w : World} {e n m : Nat} {v v2 : Value} {xs ys : List Value} {R : HP} {P : Program}
theorem run_append_nil {t : TypeId} {i : TypeInfo} (ty : TypeId) (ht : P.underlying t = some (.slice e)) (hi : P.info? e = some i) {A : Option Addr} {n c c2 : Nat} (hn : n ≤ c) (w : World) :
    (Builtin.append_ #[t, t] ty #[.slice A n c, .slice none 0 c2]).run P w = .ok (.slice A n c) w := by
  cases A <;> simp [Builtin.append_, run_underlying ht, sizeOf, typeInfo, hi, Builtin.lenOf, Builtin.firstCells, storeCells, Result.andThen, hn]
/-- 'append(v, nothing...)'. -/
theorem Sat.run_append_zero (S : Sat w0 w (row e 1 v n xs * R)) (t ty : TypeId) {z : Value} {bytes : Nat} (ht : P.underlying t = some (.slice e)) (hinfo : (P.info? e).map (fun i => (i.zero, i.size, i.bytes)) = some (some z, 1, bytes))
    (hzs : z.cells.size = 1) (h63 : n ≤ maxLen) (hbytes : n * bytes ≤ 140737488355328) (A : Option Addr) (c : Nat) :
    ∃ v' w', (Builtin.append_ #[t, t] ty #[v, .slice A 0 c]).run P w = .ok v' w' ∧ Sat w0 w' (row e 1 v' n xs * R) := by
  cases A with
  | none =>
    obtain ⟨i, hi, _⟩ := info_parts hinfo
    obtain ⟨_, h'⟩ := S.row_open
    rcases h' with ⟨rfl, rfl, rfl, _⟩ | ⟨g, cap, cur, rfl, hn, hm, hs, htk, S2⟩
    · exact ⟨_, w, run_append_nil ty ht hi (Nat.le_refl _) w, S⟩
    · exact ⟨_, w, run_append_nil ty ht hi hn w, S⟩
  | some a =>
    obtain ⟨v', w', hr, S'⟩ := S.run_append t ty ht hinfo hzs (by decide) a 0 c [] (by simp) (fun j u hj => by simp at hj) (by simp) (by omega) (by rw [Nat.add_zero]; exact hbytes)
    exact ⟨v', w', hr, by simpa using S'⟩
/-- 'append(v, v2...)', both owned. -/
theorem Sat.run_append_row (S : Sat w0 w (row e 1 v n xs * (row e 1 v2 m ys * R))) (t ty : TypeId) {z : Value} {bytes : Nat} (ht : P.underlying t = some (.slice e)) (hinfo : (P.info? e).map (fun i => (i.zero, i.size, i.bytes)) = some (some z, 1, bytes))
    (hzs : z.cells.size = 1) (h1 : ∀ u ∈ ys, u.oneCell' = true) (h63 : n + m ≤ maxLen) (hbytes : (n + m) * bytes ≤ 140737488355328) :
    ∃ v' w', (Builtin.append_ #[t, t] ty #[v, v2]).run P w = .ok v' w' ∧ Sat w0 w' (row e 1 v' (n + m) (xs ++ ys) * (row e 1 v2 m ys * R)) := by
  obtain ⟨hl, h⟩ := S.p2.row_open
  rcases h with ⟨rfl, rfl, rfl, _⟩ | ⟨g, cap, cur, rfl, hn, hm, hs, htk, S2⟩
  · obtain ⟨i, hi, _⟩ := info_parts hinfo
    obtain ⟨_, h'⟩ := S.row_open
    rcases h' with ⟨rfl, rfl, rfl, _⟩ | ⟨g, cap, cur, rfl, hn, hm, hs, htk, S2⟩
    · exact ⟨_, w, run_append_nil ty ht hi (Nat.le_refl _) w, by simpa using S⟩
    · exact ⟨_, w, run_append_nil ty ht hi hn w, by simpa using S⟩
  · exact S.run_append t ty ht hinfo hzs (by decide) ⟨g, 0, none⟩ m cap ys hl (fun j u hj => by
      obtain ⟨g', e1, hc⟩ := S.p2.row_cells j u hj
      injection e1 with e1
      injection e1 with e1
      subst e1
      rw [Addr.add_lit, Nat.zero_add]
      exact hc) h1 h63 hbytes
end
end Go.Sl
/-! ### RzZ -/
namespace Go.Sl
open Go.RowKit Go.Proofs Go.Proofs.YteakblblpiihpaaW.PrintWords Go.Proofs.Yteakblblpiihpaa.PZs Go.Sl.DI64
set_option linter.unusedVariables false
set_option linter.unusedSimpArgs false
set_option maxRecDepth 100000

theorem flat_dropS : ∀ (hs : List Sc) (m : Nat), (hs.flatMap encS).drop (m * 2) = (hs.drop m).flatMap encS
  | [], m => by simp
  | x :: hs, 0 => by simp
  | x :: hs, m + 1 => by
    rw [List.flatMap_cons, List.drop_succ_cons, show (m + 1) * 2 = m * 2 + 1 + 1 from by omega, ← flat_dropS hs m]
    rfl
theorem flat_takeS : ∀ (hs : List Sc) (m : Nat), (hs.flatMap encS).take (m * 2) = (hs.take m).flatMap encS
  | [], m => by simp
  | x :: hs, 0 => by simp
  | x :: hs, m + 1 => by
    rw [List.flatMap_cons, List.take_succ_cons, List.flatMap_cons, show (m + 1) * 2 = m * 2 + 1 + 1 from by omega, ← flat_takeS hs m]
    rfl
theorem flat_oneS (l : List Sc) : ∀ u ∈ l.flatMap encS, u.oneCell' = true := by
  intro u hu
  obtain ⟨x, _, hx⟩ := List.mem_flatMap.1 hu
  simp only [encS, List.mem_cons, List.not_mem_nil, or_false] at hx
  rcases hx with rfl | rfl <;> rfl
/-- 'append(v, a part of l...)'. -/
theorem sc_app {w0 w : World} {v : Value} {xs l : List Sc} {A A' : Option Addr} {c c' i m : Nat} {R : HP} (S : Sat w0 w (rS v xs * (rS (.slice A l.length c) l * R))) (him : i + m ≤ l.length) (hsz : xs.length + m ≤ 1000000)
    (hA : 0 < m → ∃ g, A = some ⟨g, 0, none⟩ ∧ A' = some ⟨g, i * 2, none⟩) :
    ∃ v' w', (Builtin.append_ #[22, 22] 22 #[v, .slice A' m c']).run Try.prog w = .ok v' w' ∧ Sat w0 w' (rS v' (xs ++ (l.drop i).take m) * (rS (.slice A l.length c) l * R)) := by
  by_cases hm : m = 0
  · subst hm
    cases A' with
    | none =>
      obtain ⟨j, hi, _⟩ := info_parts scInfo
      obtain ⟨_, h'⟩ := S.row_open
      rcases h' with ⟨rfl, _, _, _⟩ | ⟨g, cap, cur, rfl, hn, _, _, _, _⟩
      · exact ⟨_, w, run_append_nil _ Try.underlying22 hi (Nat.le_refl _) w, by rw [List.take_zero, List.append_nil]; exact S⟩
      · exact ⟨_, w, run_append_nil _ Try.underlying22 hi hn w, by rw [List.take_zero, List.append_nil]; exact S⟩
    | some a =>
      obtain ⟨v', w', hr, S'⟩ := S.run_append 22 22 Try.underlying22 scInfo rfl (by decide) a 0 c' [] rfl (fun j u hj => by simp at hj) (by simp) (by unfold maxLen; omega) (by omega)
      exact ⟨v', w', hr, by rw [List.take_zero, List.append_nil]; exact S'.cong (by rw [Nat.add_zero, List.append_nil])⟩
  · obtain ⟨g, rfl, rfl⟩ := hA (by omega)
    have hll : ((l.drop i).take m).length = m := by rw [List.length_take, List.length_drop]; omega
    have hl : (((l.drop i).take m).flatMap encS).length = m * 2 := by
      have := flat_length flatS ((l.drop i).take m)
      rw [hll] at this
      exact this
    have hnews : ∀ j u, (((l.drop i).take m).flatMap encS)[j]? = some u → w.cell? ((⟨g, i * 2, none⟩ : Addr).add j) = some u := fun j u hj => by
      rw [← flat_takeS, ← flat_dropS, List.getElem?_take] at hj
      split at hj
      · rw [List.getElem?_drop] at hj
        obtain ⟨g', e1, hc⟩ := S.p2.row_cells (i * 2 + j) u hj
        injection e1 with e1
        injection e1 with e1
        subst e1
        rw [Addr.add_lit]
        exact hc
      · cases hj
    obtain ⟨v', w', hr, S'⟩ := S.run_append 22 22 Try.underlying22 scInfo rfl (by decide) ⟨g, i * 2, none⟩ m c' _ hl hnews (flat_oneS _) (by unfold maxLen; omega) (by omega)
    exact ⟨v', w', hr, S'.cong (by simp only [rS, List.flatMap_append, List.length_append, hll])⟩
abbrev fromS (A : Option Addr) (c i : Nat) : Option Addr := if c = i then A else A.map (·.add (i * 2))
theorem sc_from {A : Option Addr} {n c i : Nat} (hi : i ≤ n) (W : World) :
    (Instr.slice 22 (.slice A n c) (some (.int .i64 i)) none none).run Try.prog W = .ok (.slice (fromS A c i) (n - i) (c - i)) W := by
  obtain ⟨j, hj, _, hz, _⟩ := info_parts scInfo
  rw [run_slice_from Try.underlying22 hj A n c i (by omega) (by omega) W, hz]
  rfl
theorem sc_to {A : Option Addr} {n c i : Nat} (hi : i ≤ n) (hc : n ≤ c) (W : World) :
    (Instr.slice 22 (.slice A n c) none (some (.int .i64 i)) none).run Try.prog W = .ok (.slice A i c) W := by
  obtain ⟨j, hj, _, hz, _⟩ := info_parts scInfo
  have h1 : (i : Int) ≤ c := by omega
  have h2 : (A.map fun x : Addr => x.add 0) = A := by cases A <;> simp [Addr.add]
  simp [Instr.slice, Instr.sliceBounds, Instr.sliceBound, asIntOf, run_underlying Try.underlying22, sizeOf, typeInfo, hj, Result.andThen, h1, h2, show i ≤ c by omega]
theorem fromS_part {l : List Sc} {A : Option Addr} {c i : Nat} (hc : l.length ≤ c) (hA : 0 < l.length → ∃ g, A = some ⟨g, 0, none⟩) : 0 < l.length - i → ∃ g, A = some ⟨g, 0, none⟩ ∧ fromS A c i = some ⟨g, i * 2, none⟩ := fun h => by
  obtain ⟨g, rfl⟩ := hA (by omega)
  refine ⟨g, rfl, ?_⟩
  unfold fromS
  rw [if_neg (by omega)]
  simp [Addr.add_lit]
theorem rS_at {w0 w : World} {A : Option Addr} {m c : Nat} {l : List Sc} {R : HP} (S : Sat w0 w (rS (.slice A m c) l * R)) : 0 < l.length → ∃ g, A = some ⟨g, 0, none⟩ := fun h => by
  obtain ⟨g, e, _⟩ := S.rS_two h
  exact ⟨g, e⟩
set_option maxHeartbeats 8000000 in
/-- 'Z.Put', of a pair whose member is not there. -/
theorem rZPut {w0 w : World} {v : Value} {l : List Sc} {x : Sc} {R : HP} (hz : l.Pairwise fun a b => ltS a b = true) (hb : l.length < 1000000) (hx : ∀ y ∈ l, y.f0 ≠ x.f0) (S : Sat w0 w (rS v l * R)) :
    Calls Try.prog 61 #[v, .agg #[.string x.f0, .int .i64 x.f1]] w fun en w' => ∃ u, en = .returned (.tuple #[u, .bool true]) ∧ Sat w0 w' (rS u (insS l x) * R) := by
  obtain ⟨A, c, rfl, hc, -⟩ := Sat.row_C flatS rfl S
  obtain ⟨n, hn⟩ : ∃ n, n = (l.takeWhile fun y => ltS y x).length := ⟨_, rfl⟩
  have hnl : n ≤ l.length := by rw [hn]; exact (List.takeWhile_sublist _).length_le
  have HE : Hid (l.take n ++ [x] ++ (l.drop n).take (l.length - n) = insS l x) := Lib.hid (by
    unfold insS
    have e1 : l.take n = l.takeWhile fun y => ltS y x := by
      rw [hn]
      conv => lhs; rw [← List.takeWhile_append_dropWhile (p := fun y => ltS y x) (l := l)]
      rw [List.takeWhile_append_dropWhile]
      conv => lhs; arg 2; rw [← List.takeWhile_append_dropWhile (p := fun y => ltS y x) (l := l)]
      exact List.take_left
    have e2 : l.drop n = l.dropWhile fun y => ltS y x := by
      have h := List.take_append_drop n l
      rw [e1] at h
      exact List.append_cancel_left (h.trans (List.takeWhile_append_dropWhile (p := fun y => ltS y x) (l := l)).symm)
    rw [List.take_of_length_le (l := l.drop n) (by simp), e1, e2]
    simp)
  have HRK := Lib.hid (rank_f hx (by omega))
  have HAH := Lib.hid ((ahead_f (x := x) hz (by omega)).trans (by rw [← hn]))
  have HA := Lib.hid (rS_at S)
  have HC := Lib.hid hc
  have HNL := Lib.hid hnl
  have HB := Lib.hid hb
  obtain ⟨xb, hxb⟩ : ∃ xb, xb = w.heap.size := ⟨_, rfl⟩
  have S0 := S.alloc (scO x)
  rw [← hxb] at S0
  have HS : Hid (Sat w0 _ (rS (.slice A l.length c) l * (pts xb (scO x) * R))) := Lib.hid S0.p2
  have HXB := Lib.hid hxb
  clear S S0 hxb hn hnl hc hz hb hx
  go_enter Try.func61, Try.ntmps61
  go_upto_region 1 with (fail)
  rw [← HXB.out]
  refine gen_w HS.out ?_
  clear HS HXB
  intro w1 S1
  obtain ⟨q0, q1, -⟩ := blk2 S1.p2.blk
  have HS := Lib.hid S1
  clear S1
  go_wp2_with fail
  refine (mewsref10_Rank.calls (l.length + 1) A c l x.f0 x.f1 (-1) w1 (Sat.row_C_at flatS rfl HS.out) HC.out HRK.out).mono ?_
  rintro en w2 ⟨rfl, hd⟩
  have HS2 := Lib.hid (HS.out.below hd)
  clear hd HS q0 q1
  obtain ⟨q0, q1, -⟩ := blk2 HS2.out.p2.blk
  go_wp2_with fail
  refine (mewsref10_Ahead.calls (l.length + 1) A c l x.f0 x.f1 (n : Nat) w2 (Sat.row_C_at flatS rfl HS2.out) HC.out HAH.out).mono ?_
  rintro en w3 ⟨rfl, hd⟩
  have HS3 := Lib.hid (HS2.out.below hd)
  clear hd HS2 q0 q1
  have hnb : (n : Int) ≤ 1000000 := by have := HNL.out; have := HB.out; omega
  have hto := sc_to (A := A) (n := l.length) (c := c) (i := n) HNL.out HC.out
  have hfr := sc_from (A := A) (n := l.length) (c := c) (i := n) HNL.out
  have T0 : Sat w0 w3 (rS (.slice none 0 0) [] * (rS (.slice A l.length c) l * (pts xb (scO x) * R))) := HS3.out.row_nil _ _
  obtain ⟨v1, w4, hr1, T1⟩ := sc_app (i := 0) (m := n) (A' := A) (c' := c) T0 (by have := HNL.out; omega) (by simp; have := HNL.out; have := HB.out; omega) (fun h => by
    obtain ⟨g, e⟩ := HA.out (by have := HNL.out; omega)
    exact ⟨g, e, by rw [e]⟩)
  have hl1 : ([] ++ (l.drop 0).take n : List Sc) = l.take n := by simp
  rw [hl1] at T1
  have T2 := T1.p3
  obtain ⟨q0, q1, -⟩ := blk2 T2.blk
  have HT1 := Lib.hid T1
  clear T0 T1 T2 hl1 HS3
  go_upto_region 5 with (at_builtin; refine wpList_append_eq rfl _ _ _ _ rfl rfl rfl hr1 ?_)
  clear hr1
  obtain ⟨A1, c1, hv1, -, -⟩ := Sat.row_C flatS rfl HT1.out
  subst hv1
  have T3 := HT1.out.alloc (.cells #[.string x.f0, .int .i64 x.f1] 30)
  obtain ⟨r0, r1, -⟩ := blk2 T3.blk
  obtain ⟨v2, w5, hr2, T4⟩ := Sat.rS_append (x := x) (by rw [List.length_take]; have := HB.out; omega) T3.p2 w4.heap.size 1 r0 r1
  have HT4 : Hid (Sat w0 w5 (rS v2 (l.take n ++ [x]) * (rS (.slice A l.length c) l * (pts xb (scO x) * R)))) := Lib.hid ((T4.p2.drop1))
  clear T3 T4 r0 r1 HT1
  go_upto_region 6 with (at_builtin; refine wpList_append_eq rfl _ _ _ _ rfl rfl rfl hr2 ?_)
  clear hr2 q0 q1
  obtain ⟨v3, w6, hr3, T5⟩ := sc_app (i := n) (m := l.length - n) (A' := fromS A c n) (c' := c - n) HT4.out (by have := HNL.out; omega) (by simp; have := HB.out; omega) (fromS_part HC.out HA.out)
  rw [HE.out] at T5
  have HT5 : Hid (Sat w0 w6 (rS v3 (insS l x) * R)) := Lib.hid (T5.p2.drop1.p2.drop1)
  clear T5 HT4
  go_wp2_with (at_builtin; refine wpList_append_eq rfl _ _ _ _ rfl rfl rfl hr3 ?_)
  go_ret2
  exact ⟨v3, rfl, HT5.out⟩
/-- 'C.Out'. -/
theorem rOut {w0 w : World} {v : Value} {l : List Sc} {m : ByteArray} {R : HP} (hb : l.length ≤ 1000000) (S : Sat w0 w (rS v l * R)) :
    Calls Try.prog 54 #[v, .string m] w fun en w' => ∃ u, en = .returned u ∧ Sat w0 w' (rS u (outS l m) * (rS v l * R)) := by
  obtain ⟨A, c, rfl, hc, hC⟩ := Sat.row_C flatS rfl S
  refine (mewsref19_Out.calls (l.length + 1) A c l m (outS l m) w hC hc (out_f m hb)).mono ?_
  rintro en w' ⟨u, rfl, hR, hB⟩
  exact ⟨u, rfl, S.rS_keep hB hR⟩
theorem outS_le (l : List Sc) (m : ByteArray) : (outS l m).length ≤ l.length := List.length_filter_le _ _
theorem cellsX2 {w0 w : World} {xb : Nat} {x : Sc} {A B R : HP} (S : Sat w0 w (A * (B * (pts xb (scO x) * R)))) : w.cell? ⟨xb, 0, none⟩ = some (.string x.f0) ∧ w.cell? ⟨xb, 1, none⟩ = some (.int .i64 x.f1) := by
  obtain ⟨a, b, _⟩ := blk2 S.p3.blk
  exact ⟨a, b⟩
theorem cellsX1 {w0 w : World} {xb : Nat} {x : Sc} {A R : HP} (S : Sat w0 w (A * (pts xb (scO x) * R))) : w.cell? ⟨xb, 0, none⟩ = some (.string x.f0) ∧ w.cell? ⟨xb, 1, none⟩ = some (.int .i64 x.f1) := by
  obtain ⟨a, b, _⟩ := blk2 S.p2.blk
  exact ⟨a, b⟩
set_option maxHeartbeats 8000000 in
/-- 'C.Score'. -/
theorem rScoreC {w0 w : World} {v : Value} {l : List Sc} {x : Sc} {R : HP} (hz : ZOk l) (hb : l.length < 1000000) (S : Sat w0 w (rS v l * R)) :
    Calls Try.prog 47 #[v, .agg #[.string x.f0, .int .i64 x.f1]] w fun en w' => ∃ u, en = .returned u ∧ Sat w0 w' (rS u (putS l x) * R) := by
  obtain ⟨xb, hxb⟩ : ∃ xb, xb = w.heap.size := ⟨_, rfl⟩
  have S0 := S.alloc (scO x)
  rw [← hxb] at S0
  have HS : Hid (Sat w0 _ (rS v l * (pts xb (scO x) * R))) := Lib.hid S0.p2
  have HXB := Lib.hid hxb
  have HB := Lib.hid hb
  have HZ := Lib.hid hz
  clear S S0 hxb hb hz
  go_enter Try.func47, Try.ntmps47
  go_upto_region 1 with (fail)
  rw [← HXB.out]
  refine gen_w HS.out ?_
  clear HS HXB
  intro w1 S1
  have HS := Lib.hid S1
  clear S1
  go_region_held3 (fun w' => w'.cell? ⟨xb, 0, none⟩ = some (.string x.f0) ∧ w'.cell? ⟨xb, 1, none⟩ = some (.int .i64 x.f1))
    (first | exact cellsX1 HS.out.drew | exact cellsX2 HSb.out | exact cellsX2 HSc.out)
    ((first
      | (go_at_call 54; refine (rOut (m := x.f0) (Nat.le_of_lt HB.out) HS.out.drew).mono ?_; rintro en w2 ⟨u, rfl, Sb⟩; have HSb := Lib.hid Sb; clear Sb)
      | (go_at_call 61; refine (rZPut (x := x) (out_ok HZ.out x.f0).ord (Nat.lt_of_le_of_lt (outS_le l x.f0) HB.out) (fun y hy => out_not y hy) HSb.out).mono ?_; rintro en w3 ⟨u2, rfl, Sc⟩; have HSc : Hid (Sat w0 w3 (rS u2 (putS l x) * (rS v l * (pts xb (scO x) * R)))) := Lib.hid Sc; clear Sc)))
  have HSd : Hid (Sat w0 w3 (rS u2 (putS l x) * R)) := Lib.hid (HSc.out.p2.drop1.p2.drop1)
  clear HSc HSb HS
  go_wp2_with fail
  go_ret
  exact ⟨_, rfl, HSd.out⟩
abbrev valV (k : Int) (z : Value) : Value := .agg #[.int .i64 k, .string ⟨#[]⟩, .slice none 0 0, .slice none 0 0, z]
abbrev valO (k : Int) (z : Value) : Obj := .cells #[.int .i64 k, .string ⟨#[]⟩, .slice none 0 0, .slice none 0 0, z] 45 (0, 0)
theorem vsize : (Try.prog.info? 45).map (·.size) = some 5 := by kernel_rfl
theorem val_set0 {k : Int} {z : Value} (k2 : Int) (z2 : Value) (t : TypeId) : (((((Array.setIfInBounds #[.int .i64 k, .string ⟨#[]⟩, .slice none 0 0, .slice none 0 0, z] 0 (.int .i64 k2)).setIfInBounds 1 (.string ⟨#[]⟩)).setIfInBounds 2 (.slice none 0 0)).setIfInBounds 3 (.slice none 0 0)).setIfInBounds 4 z2) = #[.int .i64 k2, .string ⟨#[]⟩, .slice none 0 0, .slice none 0 0, z2] := rfl
theorem Sat.val_put {w0 w : World} {rb : Nat} {k : Int} {z : Value} {R : HP} (S : Sat w0 w (pts rb (valO k z) * R)) (k2 : Int) (z2 : Value) :
    Sat w0 (((((w.setCell ⟨rb, 0, none⟩ (.int .i64 k2)).setCell ⟨rb, 1, none⟩ (.string ⟨#[]⟩)).setCell ⟨rb, 2, none⟩ (.slice none 0 0)).setCell ⟨rb, 3, none⟩ (.slice none 0 0)).setCell ⟨rb, 4, none⟩ z2) (pts rb (valO k2 z2) * R) :=
  ((((S.setCell (i := 0) (.int .i64 k2)).setCell (i := 1) (.string ⟨#[]⟩)).setCell (i := 2) (.slice none 0 0)).setCell (i := 3) (.slice none 0 0)).setCell (i := 4) z2
set_option maxHeartbeats 16000000 in
/-- 'C.ZSet', of a list that stays as it is. -/
theorem rZSet {w0 w : World} {A : Option Addr} {c : Nat} {l : List Sc} {R : HP} (hrd : ∀ (Z : HP) (w' : World), Sat w0 w' (Z * R) → Kd.C k30 w' A l.length l) (hs : ∀ x ∈ l, x.f0.size ≤ maxLen) (hb : l.length ≤ 100000) (S : Sat w0 w R) :
    Calls Try.prog 16 #[.slice A l.length c] w fun en w' => ∃ k z, en = .returned (valV k z) ∧ Sat w0 w' (rS z (putsS l) * R) := by
  obtain ⟨rb, hrb⟩ : ∃ rb, rb = w.heap.size := ⟨_, rfl⟩
  have S0 := S.alloc (valO 0 (.slice none 0 0))
  rw [← hrb] at S0
  have HS := Lib.hid S0
  have HRB := Lib.hid hrb
  have HRD := Lib.hid hrd
  have HSZ := Lib.hid hs
  have HB := Lib.hid hb
  have hbi : (l.length : Int) ≤ 100000 := by omega
  clear S S0 hrb hrd hs hb
  go_enter Try.func16, Try.ntmps16
  go_upto_region 1 with (fail)
  rw [← HRB.out]
  refine gen_w HS.out ?_
  clear HS HRB
  intro w1 S1
  have HS := Lib.hid S1
  clear S1
  by_cases h0 : l.length = 0
  · have h0d : ((l.length : Int) == 0) = true := by simp [h0]
    have HL0 := Lib.hid (List.eq_nil_of_length_eq_zero h0)
    obtain ⟨r0, r1, r2, r3, r4, rf⟩ := blk5 HS.out.blk
    clear h0
    go_wp2_with fail
    have S2 := HS.out.val_put 0 (.slice none 0 0)
    refine bodyPost_ret (results_cell_row rfl _ _ rb 45 _ (0, 0) _ rfl S2.blk Try.underlying45 rfl vsize) rfl ?_
    exact ⟨0, .slice none 0 0, rfl, by rw [HL0.out]; exact (S2.drop1).row_nil _ _⟩
  · have h0d : ((l.length : Int) == 0) = false := by rw [beq_eq_false_iff_ne]; omega
    clear h0
    obtain ⟨b, hb⟩ : ∃ b, b = w1.heap.size := ⟨_, rfl⟩
    have S2 := HS.out.alloc (valO 5 (.slice none 0 0))
    rw [← hb] at S2
    have HS2 : Hid (Sat w0 _ (pts b (valO 5 (.slice none 0 0)) * (rS (.slice none 0 0) (putsS (l.take 0)) * (pts rb (valO 0 (.slice none 0 0)) * R)))) := Lib.hid (Sat.p2 (S2.row_nil 30 2))
    have HBB := Lib.hid hb
    clear S2 hb HS
    go_upto_region 4 with (fail)
    rw [← HBB.out]
    refine gen_w HS2.out ?_
    clear HS2 HBB
    intro w2 S2
    have HS2 := Lib.hid S2
    clear S2
    go_wp2_with fail
    go_loopw [4] (fun v4 wr => ∃ (i : Nat) (z : Value), v4 = .int .i64 i ∧ i ≤ l.length ∧ Hid (Sat w0 wr (pts b (valO 5 z) * (rS z (putsS (l.take i)) * (pts rb (valO 0 (.slice none 0 0)) * R))))) (fun v4 _ => l.length - (RowKit.intOf v4).toNat)
    case atStart => exact ⟨0, _, rfl, by omega, HS2⟩
    case round =>
      clear HS2
      obtain ⟨i, z, rfl, hil, HSi⟩ := hrel
      by_cases hlt : i < l.length
      · have hlti : (i : Int) < (l.length : Int) := by omega
        obtain ⟨hz, hzl⟩ := puts_ok HSZ.out HB.out i (by omega)
        have HX : Hid (putsS (l.take (i + 1)) = putS (putsS (l.take i)) l[i]) := Lib.hid (puts_take l hlt)
        obtain ⟨cur, hcur⟩ : ∃ cur, cur = putsS (l.take i) := ⟨_, rfl⟩
        rw [← hcur] at HSi HX hz hzl
        have HZ := Lib.hid hz
        have HZL := Lib.hid hzl
        have hC := HRD.out _ _ (HSi.out.cong (B := (pts b (valO 5 z) * (rS z cur * pts rb (valO 0 (.slice none 0 0)))) * R) (by ac_rfl))
        obtain ⟨ad, e1, hx0, hx1⟩ := argZ hC (Below.refl _ _) hlt
        subst e1
        obtain ⟨x, hx⟩ : ∃ x, x = l[i] := ⟨_, rfl⟩
        rw [← hx] at hx0 hx1 HX
        obtain ⟨v0, v1, v2, v3, v4, vf⟩ := blk5 HSi.out.blk
        obtain ⟨A2, c2, rfl, -, -⟩ := Sat.row_C flatS rfl HSi.out.p2
        clear hC hcur hz hzl hx
        have HSp : Hid (Sat w0 wr.drew (rS (.slice A2 cur.length c2) cur * (pts b (valO 5 (.slice A2 cur.length c2)) * (pts rb (valO 0 (.slice none 0 0)) * R)))) := Lib.hid HSi.out.drew.p2
        have hcb : cur.length < 1000000 := by have := HZL.out; omega
        have HCB := Lib.hid hcb
        clear hcb HSi
        go_wp2_with fail
        go_region_with (go_at_call 47; refine (rScoreC (x := x) HZ.out HCB.out HSp.out).mono ?_; rintro en w3 ⟨u, rfl, S3⟩; obtain ⟨A3, c3, rfl, -, -⟩ := Sat.row_C flatS rfl S3; obtain ⟨d0, d1, d2, d3, d4, df⟩ := blk5 S3.p2.blk; have HS3 := Lib.hid S3; clear S3)
        all_goals
          obtain ⟨u, hu⟩ : ∃ u, u = Value.slice A3 (putS cur x).length c3 := ⟨_, rfl⟩
          rw [← hu] at HS3 ⊢
          clear hu
          have S4 := HS3.out.p2.setCell (i := 4) u
          have HS4 : Hid (Sat w0 (w3.setCell ⟨b, 4, none⟩ u) (pts b (valO 5 u) * (rS u (putS cur x) * (pts rb (valO 0 (.slice none 0 0)) * R)))) := Lib.hid S4
          clear S4 HS3 HSp d0 d1 d2 d3 d4 df v0 v1 v2 v3 v4 vf hx0 hx1
          refine gen_w HS4.out ?_
          clear HS4
          intro w5 S5
          have HS5 := Lib.hid S5
          clear S5
          go_wp2_with fail
          go_roundw
          case rel => exact ⟨i + 1, u, by simp, by omega, by rw [HX.out]; exact HS5⟩
          case measure => simp [RowKit.intOf]; omega
      · have hi2 : i = l.length := by omega
        have HIE : Hid (l.take i = l) := Lib.hid (by rw [hi2, List.take_of_length_le (Nat.le_refl _)])
        rw [HIE.out] at HSi
        obtain ⟨v0, v1, v2, v3, v4, vf⟩ := blk5 HSi.out.blk
        obtain ⟨r0, r1, r2, r3, r4, rf⟩ := blk5 HSi.out.p3.blk
        obtain ⟨A2, c2, rfl, -, -⟩ := Sat.row_C flatS rfl HSi.out.p2
        go_wp2_with fail
        have S2 := HSi.out.p3.val_put 5 (.slice A2 (putsS l).length c2)
        refine bodyPost_ret (results_cell_row rfl _ _ rb 45 _ (0, 0) _ rfl S2.blk Try.underlying45 rfl vsize) rfl ?_
        exact ⟨5, _, rfl, S2.drop1.drop1⟩
theorem rScore24 {w0 w : World} {v : Value} {l : List Sc} {m : ByteArray} {R : HP} (hb : l.length ≤ 1000000) (S : Sat w0 w (rS v l * R)) :
    Calls Try.prog 32 #[v, .string m] w fun en w' => en = .returned (scoreV l m) ∧ Sat w0 w' (rS v l * R) := by
  obtain ⟨A, c, rfl, hc, hC⟩ := Sat.row_C flatS rfl S
  refine (mewsref24_Score.calls (l.length + 1) A c l m _ _ w hC hc (score_f m hb)).mono ?_
  rintro en w' ⟨rfl, hd⟩
  exact ⟨rfl, S.below (by first | exact hd | exact hd.below)⟩
end Go.Sl
