/-
  The document's answer for layers 10 and 19, by contract: Put, Score, ZSet.
  One row appended to another. Over any program.
  The plain law of layer 24's questions: what the program tells of ranks and scores is what the document tells.
  The document's answer for layer 24, by contract: Range.
  The document's answer for layer 24, by contract: way, Span, Range.
  The document's answer for layers 10, 19 and 24, its printed functions in plain words; a made row of pairs is an owned one.
  Sorted sets: Span, Pop.
-/
import Derived.Test.YteakblblpiihpaaMgE
import Derived.Deep.RegionHeld3
import Derived.Deep.DeepCutAuto
import Derived.Test.YteakblblpiihpaaMgA
import Derived.Deep.RegionWith
/-! ### ZsH -/
namespace Go.Sl
open Go.RowKit Go.Proofs Go.Sl Go.Proofs.YteakblblpiihpaaW.PrintWords Go.Proofs.Yteakblblpiihpaa.PZs Go.Sl.DI64
set_option linter.unusedVariables false
set_option linter.unusedSimpArgs false
set_option maxRecDepth 100000

/-- What 'Span' tells. -/
def spF (n : Nat) (fr : Int) : Int := if fr < 0 then max (fr + n) 0 else fr
def spT (n : Nat) (ti : Int) : Int := min (if ti < 0 then ti + n else ti) ((n : Int) - 1)
def spanS (l : List Sc) (fr ti : Int) (back : Bool) : List Sc := cutS l (spF l.length fr) (spT l.length ti) back
set_option maxHeartbeats 8000000 in
/-- 'Span'. -/
theorem zsSpan {w0 w : World} {s : Nat} {fr ti : Int} {back : Bool} {l : List Sc} {R : HP} (h1 : -9223372036854775808 ≤ fr) (h2 : fr ≤ 9223372036854775807) (h3 : -9223372036854775808 ≤ ti) (h4 : ti ≤ 9223372036854775807) (S : Sat w0 w (zs s l * R)) :
    Calls Try.prog 19 #[pt s, .int .i64 fr, .int .i64 ti, .bool back] w fun en w' => ∃ v, en = .returned v ∧ Sat w0 w' (rS v (spanS l fr ti back) * (zs s l * R)) := by
  have hb := S.zs_big
  have hbi : (l.length : Int) ≤ 1000000 := by omega
  obtain ⟨f, hf⟩ : ∃ f, f = spF l.length fr := ⟨_, rfl⟩
  obtain ⟨t, ht⟩ : ∃ t, t = spT l.length ti := ⟨_, rfl⟩
  have hf0 : 0 ≤ f := by rw [hf]; unfold spF; split <;> omega
  have htl : t < l.length := by rw [ht]; unfold spT; omega
  have HRES : Hid (spanS l fr ti back = cutS l f t back) := Lib.hid (by unfold spanS; rw [hf, ht])
  have HF := Lib.hid hf
  have HT := Lib.hid ht
  have HF0 := Lib.hid hf0
  have HTL := Lib.hid htl
  have HS := Lib.hid S
  clear S hb hf ht hf0 htl
  go_enter Try.func19, Try.ntmps19
  go_wp2_with fail
  refine (zsLen HS.out).mono ?_
  rintro en w' ⟨rfl, rfl⟩
  go_upto_if 13 with (fail)
  go_cut [1] (fun s1 wx => s1 = .int .i64 f ∧ wx = w)
  case first =>
    go_wp2_with fail
    all_goals
      go_meet
      refine ⟨?_, rfl⟩
      rw [HF.out]
      unfold spF
      first | rw [if_pos (by omega)] | rw [if_neg (by omega)]
  case rest =>
    obtain ⟨rfl, rfl⟩ := hcut
    go_upto_if 19 with (fail)
    go_cut [2] (fun s2 wx => s2 = .int .i64 (if ti < 0 then ti + l.length else ti) ∧ wx = wc)
    case first =>
      go_wp2_with fail
      all_goals
        go_meet
        refine ⟨?_, rfl⟩
        first | rw [if_pos (by omega)] | rw [if_neg (by omega)]
    case rest =>
      obtain ⟨rfl, rfl⟩ := hcut
      go_upto_region 7 with (fail)
      rw [show min (if ti < 0 then ti + (l.length : Int) else ti) ((l.length : Int) - 1) = t from HT.out.symm]
      generalize (if ti < 0 then ti + (l.length : Int) else ti) = z
      by_cases htf : t < f
      · have htd : decide (t < f) = true := by simpa using htf
        have HE : Hid (spanS l fr ti back = []) := Lib.hid (by rw [HRES.out]; unfold cutS; rw [if_pos htf])
        go_wp2_with fail
        go_ret
        exact ⟨_, rfl, by rw [HE.out]; exact HS.out.row_nil _ _⟩
      · have htd : decide (t < f) = false := by simpa using htf
        go_wp2_with fail
        refine (zsCutG (.inr ⟨HF0.out, HTL.out⟩) HS.out).mono ?_
        rintro en w2 ⟨v, rfl, S2⟩
        rw [← HRES.out] at S2
        have HS2 := Lib.hid S2
        clear S2 HS
        go_wp2_with fail
        go_ret
        exact ⟨_, rfl, HS2.out⟩
end Go.Sl
/-! ### RzP -/
namespace Go.Sl
open Go.RowKit Go.Proofs Go.Proofs.YteakblblpiihpaaW.PrintWords Go.Proofs.Yteakblblpiihpaa.PZs Go.Sl.DI64
set_option linter.unusedVariables false
set_option linter.unusedSimpArgs false
set_option maxRecDepth 100000

theorem reps_flatS : ∀ (xs : List Sc) (cs : List Value), cs.length = xs.length * 2 → (∀ j p, xs[j]? = some p → (cs.drop (j * 2)).take 2 = encS p) → cs = xs.flatMap encS
  | [], cs, hl, _ => by simpa using hl
  | x :: xs, cs, hl, h => by
    have h0 := h 0 x rfl
    simp only [Nat.zero_mul, List.drop_zero] at h0
    rw [List.flatMap_cons, ← h0, ← reps_flatS xs (cs.drop 2) (by simp at hl ⊢; omega) (fun j p hj => by
      rw [List.drop_drop]
      have := h (j + 1) p (by simpa using hj)
      rw [show 2 + j * 2 = (j + 1) * 2 by omega]
      exact this), List.take_append_drop]
/-- A row of pairs that a call made. -/
theorem Sat.rS_keep {w0 w w' : World} {v : Value} {r : List Sc} {A : HP} {ok : Nat → Prop} (S : Sat w0 w A) (hb : Below w.heap.size w w') (h : Kd.R k30 30 w' w.heap.size ok v r) : Sat w0 w' (rS v r * A) := by
  obtain ⟨_, cs, ⟨hl, ho⟩, hr⟩ := h
  have e : cs = r.flatMap encS := reps_flatS r cs hl (fun j p hj => by
    obtain ⟨a, b, e1, ha, hb'⟩ := hr.2 j p hj
    rw [show (cs.drop (j * 2)).take 2 = a ++ b from e1, show a = [.string p.f0] from ha, show b = [.int .i64 p.f1] from hb']
    rfl)
  subst e
  have S' := S.below hb
  rcases ho with ⟨rfl, h0⟩ | ⟨g, cap, cur, rfl, hge, hblk, hn, hm, hs, ht⟩
  · have : r = [] := List.eq_nil_of_length_eq_zero h0
    subst this
    exact S'.row_nil _ _
  · refine Sat.row_shut hl hn hm hs ht ?_
    obtain ⟨k, hk, hw⟩ := S.has
    obtain ⟨k', hk', hw'⟩ := S'.has
    refine S'.env rfl rfl rfl (Nat.le_refl _) ⟨fun b => if b = g then some (.cells cur 30 (0, 0)) else k b, ⟨fun b => if b = g then some (.cells cur 30 (0, 0)) else none, k, fun b => ?_, fun b => ?_, rfl, hk⟩, fun b o ho => ?_⟩
    · by_cases eb : b = g
      · right
        cases hkb : k b with
        | none => rfl
        | some o => exact absurd (Array.getElem?_eq_some_iff.1 (hw b o hkb)).1 (by omega)
      · left; simp [eb]
    · by_cases eb : b = g <;> simp [eb]
    · by_cases eb : b = g
      · simp [eb] at ho; subst ho; rw [eb]; exact hblk
      · simp [eb] at ho
        have := hw b o ho
        exact (hb.block b (Array.getElem?_eq_some_iff.1 this).1).trans this
theorem ahead_l0 {l : List Sc} {x : Sc} (h : l.Pairwise fun a b => ltS a b = true) (hs : l.length ≤ 1000000) : ∀ (d k : Nat) (i n : Nat), l.length - i = d → d < k → i ≤ l.length → n ≤ i →
    mewsref10_Ahead.l0 k l n i x.f0 x.f1 = some (((n + ((l.drop i).takeWhile fun y => ltS y x).length : Nat)) : Int) := by
  intro d
  induction d with
  | zero =>
    intro k i n hd hk hi hn
    obtain ⟨k, rfl⟩ : ∃ m, k = m + 1 := ⟨k - 1, by omega⟩
    simp only [mewsref10_Ahead.l0]
    rw [if_neg (by omega), List.drop_of_length_le (by omega)]
    rfl
  | succ d ih =>
    intro k i n hd hk hi hn
    obtain ⟨k, rfl⟩ : ∃ m, k = m + 1 := ⟨k - 1, by omega⟩
    have h1 : i < l.length := by omega
    simp only [mewsref10_Ahead.l0]
    rw [if_pos (by omega), if_pos (by omega), rdS_at l i h1, lessZ_f, List.drop_eq_getElem_cons h1]
    simp only [Option.bind_some]
    by_cases e : ltS l[i] x = true
    · rw [if_pos e, wrap_upZ (n := l.length) (by omega) (by omega), wrap_upZ h1 (by omega), ih k (i + 1) (n + 1) (by omega) (by omega) (by omega) (by omega), List.takeWhile_cons_of_pos (by simpa using e)]
      simp only [List.length_cons]
      congr 2
      omega
    · rw [if_neg e, wrap_upZ h1 (by omega), ih k (i + 1) n (by omega) (by omega) (by omega) (by omega), List.takeWhile_cons_of_neg (by simpa using e)]
      -- none of those behind is ahead
      have hp := h
      rw [show l = l.take i ++ l[i] :: l.drop (i + 1) by rw [← List.drop_eq_getElem_cons h1, List.take_append_drop], List.pairwise_append, List.pairwise_cons] at hp
      cases hd2 : l.drop (i + 1) with
      | nil => rfl
      | cons y ys =>
        have hy : ltS l[i] y = true := hp.2.1.1 y (by rw [hd2]; simp)
        have : ltS y x = false := by
          cases hq : ltS y x with
          | false => rfl
          | true => exact absurd (ltS_trans hy hq) e
        rw [List.takeWhile_cons_of_neg (by simp [this])]
theorem ahead_f {l : List Sc} {x : Sc} (h : l.Pairwise fun a b => ltS a b = true) (hs : l.length ≤ 1000000) : mewsref10_Ahead.f (l.length + 1) l x.f0 x.f1 = some (((l.takeWhile fun y => ltS y x).length : Nat) : Int) := by
  unfold mewsref10_Ahead.f
  have := ahead_l0 (x := x) h hs l.length (l.length + 1) 0 0 (by omega) (by omega) (by omega) (by omega)
  simpa using this
theorem rank_l0 {l : List Sc} {x : Sc} (h : ∀ y ∈ l, y.f0 ≠ x.f0) (hs : l.length ≤ 1000000) : ∀ (d k : Nat) (i : Nat), l.length - i = d → d < k → i ≤ l.length → mewsref10_Rank.l0 k l i x.f0 x.f1 = some (-1) := by
  intro d
  induction d with
  | zero =>
    intro k i hd hk hi
    obtain ⟨k, rfl⟩ : ∃ m, k = m + 1 := ⟨k - 1, by omega⟩
    simp only [mewsref10_Rank.l0]
    rw [if_neg (by omega)]
  | succ d ih =>
    intro k i hd hk hi
    obtain ⟨k, rfl⟩ : ∃ m, k = m + 1 := ⟨k - 1, by omega⟩
    have h1 : i < l.length := by omega
    have hq : (l[i].f0.toList == x.f0.toList) = false := beq_eq_false_iff_ne.2 (fun e => h _ (List.getElem_mem h1) (toList_injZ.1 e))
    simp only [mewsref10_Rank.l0]
    rw [if_pos (by omega), if_pos (by omega), rdS_at l i h1, hq, if_neg (by simp), wrap_upZ h1 (by omega), ih k (i + 1) (by omega) (by omega) (by omega)]
theorem rank_f {l : List Sc} {x : Sc} (h : ∀ y ∈ l, y.f0 ≠ x.f0) (hs : l.length ≤ 1000000) : mewsref10_Rank.f (l.length + 1) l x.f0 x.f1 = some (-1) := rank_l0 h hs l.length (l.length + 1) 0 (by omega) (by omega) (by omega)
theorem out_l0 {l : List Sc} {m : ByteArray} (hs : l.length ≤ 1000000) : ∀ (d k : Nat) (i : Nat) (o : List Sc), l.length - i = d → d < k → i ≤ l.length → o.length ≤ i → mewsref19_Out.l0 k l m o i = some (o ++ outS (l.drop i) m) := by
  intro d
  induction d with
  | zero =>
    intro k i o hd hk hi ho
    obtain ⟨k, rfl⟩ : ∃ m, k = m + 1 := ⟨k - 1, by omega⟩
    simp only [mewsref19_Out.l0]
    rw [if_neg (by omega), List.drop_of_length_le (by omega)]
    simp [outS]
  | succ d ih =>
    intro k i o hd hk hi ho
    obtain ⟨k, rfl⟩ : ∃ m, k = m + 1 := ⟨k - 1, by omega⟩
    have h1 : i < l.length := by omega
    simp only [mewsref19_Out.l0]
    rw [if_pos (by omega), if_pos (by omega), rdS_at l i h1, List.drop_eq_getElem_cons h1, wrap_upZ h1 (by omega)]
    by_cases e : l[i].f0 = m
    · rw [if_pos (toList_injZ.2 e), ih k (i + 1) o (by omega) (by omega) (by omega) (by omega)]
      unfold outS
      rw [List.filter_cons_of_neg (by simpa using e)]
    · rw [if_neg (fun h => e (toList_injZ.1 h)), if_pos (by omega), ih k (i + 1) _ (by omega) (by omega) (by omega) (by simp; omega)]
      unfold outS
      rw [List.filter_cons_of_pos (by simpa using e)]
      simp
theorem out_f {l : List Sc} (m : ByteArray) (hs : l.length ≤ 1000000) : mewsref19_Out.f (l.length + 1) l m = some (outS l m) := by
  unfold mewsref19_Out.f
  have := out_l0 (m := m) hs l.length (l.length + 1) 0 [] (by omega) (by omega) (by omega) (by simp)
  simpa using this
theorem score_l0 {l : List Sc} {m : ByteArray} (hs : l.length ≤ 1000000) : ∀ (d k : Nat) (i : Nat), l.length - i = d → d < k → i ≤ l.length → mewsref24_Score.l0 k l m i = some ((findS (l.drop i) m).getD 0, (findS (l.drop i) m).isSome) := by
  intro d
  induction d with
  | zero =>
    intro k i hd hk hi
    obtain ⟨k, rfl⟩ : ∃ m, k = m + 1 := ⟨k - 1, by omega⟩
    simp only [mewsref24_Score.l0]
    rw [if_neg (by omega), List.drop_of_length_le (by omega)]
    rfl
  | succ d ih =>
    intro k i hd hk hi
    obtain ⟨k, rfl⟩ : ∃ m, k = m + 1 := ⟨k - 1, by omega⟩
    have h1 : i < l.length := by omega
    simp only [mewsref24_Score.l0]
    rw [if_pos (by omega), if_pos (by omega), rdS_at l i h1, List.drop_eq_getElem_cons h1, wrap_upZ h1 (by omega)]
    by_cases e : l[i].f0 = m
    · rw [if_pos (toList_injZ.2 e)]
      unfold findS
      rw [List.find?_cons_of_pos (by simpa using e)]
      rfl
    · rw [if_neg (fun h => e (toList_injZ.1 h)), ih k (i + 1) (by omega) (by omega) (by omega)]
      unfold findS
      rw [List.find?_cons_of_neg (by simpa using e)]
theorem score_f {l : List Sc} (m : ByteArray) (hs : l.length ≤ 1000000) : mewsref24_Score.f (l.length + 1) l m = some ((findS l m).getD 0, (findS l m).isSome) := by
  unfold mewsref24_Score.f
  have := score_l0 (m := m) hs l.length (l.length + 1) 0 (by omega) (by omega) (by omega)
  simpa using this
theorem turned_l0 {l : List Sc} (hs : l.length ≤ 1000000) : ∀ (i k : Nat) (o : List Sc), i ≤ l.length → i < k → o.length + i ≤ 1000000 → mewsref24_Turned.l0 k l o ((i : Int) - 1) = some (o ++ (l.take i).reverse) := by
  intro i
  induction i with
  | zero =>
    intro k o hi hk ho
    obtain ⟨k, rfl⟩ : ∃ m, k = m + 1 := ⟨k - 1, by omega⟩
    simp only [mewsref24_Turned.l0]
    rw [if_neg (by omega)]
    simp
  | succ i ih =>
    intro k o hi hk ho
    obtain ⟨k, rfl⟩ : ∃ m, k = m + 1 := ⟨k - 1, by omega⟩
    have e : ((i + 1 : Nat) : Int) - 1 = (i : Int) := by omega
    have ew : wrap64 ((i : Int) - 1) = (i : Int) - 1 := by unfold wrap64; omega
    simp only [mewsref24_Turned.l0]
    rw [e, if_pos (by omega), if_pos (by omega), if_pos (by omega), if_pos (by omega), rdS_at l i (by omega), ew, ih k _ (by omega) (by omega) (by simp; omega)]
    have e2 : l.take (i + 1) = l.take i ++ [l[i]] := by rw [List.take_add_one, List.getElem?_eq_getElem (by omega)]; rfl
    rw [e2, List.reverse_append]
    simp
theorem turned_f {l : List Sc} (hs : l.length ≤ 1000000) : mewsref24_Turned.f (l.length + 1) l = some l.reverse := by
  unfold mewsref24_Turned.f
  have ew : wrap64 ((l.length : Int) - 1) = (l.length : Int) - 1 := by unfold wrap64; omega
  have := turned_l0 hs l.length (l.length + 1) [] (Nat.le_refl _) (by omega) (by simpa using hs)
  rw [ew, this]
  simp
end Go.Sl
/-! ### RzS -/
namespace Go.Sl
open Go.RowKit Go.Proofs Go.Proofs.YteakblblpiihpaaW.PrintWords Go.Proofs.Yteakblblpiihpaa.PZs Go.Sl.DI64
set_option linter.unusedVariables false
set_option linter.unusedSimpArgs false
set_option maxRecDepth 100000

/-- A row, and itself as it is told from an end: turned anew, or the same. -/
def twoS (v u : Value) (l : List Sc) (back : Bool) : HP := if back then rS u l.reverse * rS v l else wh (u = v) (rS v l)
theorem Sat.two_row {w0 w : World} {v u : Value} {l : List Sc} {back : Bool} {R : HP} (S : Sat w0 w (twoS v u l back * R)) : Sat w0 w (rS v l * R) := by
  unfold twoS at S
  cases back with
  | false => exact S.wh1.2
  | true =>
    simp only [if_true] at S
    exact Sat.drop1 (A := rS u l.reverse) (S.cong (by ac_rfl))
theorem Sat.two_way {w0 w : World} {v u : Value} {l : List Sc} {back : Bool} {R : HP} (S : Sat w0 w (twoS v u l back * R)) : ∃ R', Sat w0 w (rS u (wayS l back) * R') := by
  unfold twoS at S
  unfold wayS
  cases back with
  | false =>
    obtain ⟨rfl, S⟩ := S.wh1
    exact ⟨_, S⟩
  | true =>
    simp only [if_true] at S
    exact ⟨_, S.cong (sep_assoc _ _ _)⟩
theorem rTurned {w0 w : World} {v : Value} {l : List Sc} {R : HP} (hb : l.length ≤ 1000000) (S : Sat w0 w (rS v l * R)) :
    Calls Try.prog 23 #[v] w fun en w' => ∃ u, en = .returned u ∧ Sat w0 w' (rS u l.reverse * (rS v l * R)) := by
  obtain ⟨A, c, rfl, hc, hC⟩ := Sat.row_C flatS rfl S
  refine (mewsref24_Turned.calls (l.length + 1) A c l l.reverse w hC hc (turned_f hb)).mono ?_
  rintro en w' ⟨u, rfl, hR, hB⟩
  exact ⟨u, rfl, S.rS_keep hB hR⟩
/-- 'way'. -/
theorem rWay {w0 w : World} {v : Value} {l : List Sc} {back : Bool} {R : HP} (hb : l.length ≤ 1000000) (S : Sat w0 w (rS v l * R)) :
    Calls Try.prog 49 #[v, .bool back] w fun en w' => ∃ u, en = .returned u ∧ Sat w0 w' (twoS v u l back * R) := by
  have HS := Lib.hid S
  have HB := Lib.hid hb
  clear S hb
  cases back with
  | false =>
    go_enter Try.func49, Try.ntmps49
    go_wp2_with fail
    go_ret
    exact ⟨v, rfl, by unfold twoS; exact Sat.mk_wh1 rfl HS.out⟩
  | true =>
    go_enter Try.func49, Try.ntmps49
    go_wp2_with fail
    refine (rTurned HB.out HS.out).mono ?_
    rintro en w' ⟨u, rfl, S'⟩
    have HS' := Lib.hid S'
    clear S' HS
    go_wp2_with fail
    go_ret
    exact ⟨u, rfl, by unfold twoS; simp only [if_true]; exact HS'.out.cong (sep_assoc _ _ _).symm⟩
/-- Those that are picked by their places, up to i. -/
def selA (m : List Sc) (P : Nat → Bool) : Nat → List Sc
  | 0 => []
  | i + 1 => selA m P i ++ (if P i then (m[i]?).toList else [])
theorem selA_le (m : List Sc) (P : Nat → Bool) : ∀ i, (selA m P i).length ≤ i
  | 0 => Nat.le_refl _
  | i + 1 => by
    have := selA_le m P i
    rw [selA, List.length_append]
    split
    · cases m[i]? <;> simp <;> omega
    · simp; omega
/-- Is rank i asked? -/
def lowB (n : Nat) (fr : Int) (i : Nat) : Bool := if fr < 0 then decide (fr ≤ (i : Int) - n) else decide (fr ≤ (i : Int))
def highB (n : Nat) (ti : Int) (i : Nat) : Bool := if ti < 0 then decide ((i : Int) - n ≤ ti) else decide ((i : Int) ≤ ti)
def spanR (l : List Sc) (fr ti : Int) (back : Bool) : List Sc := selA (wayS l back) (fun i => lowB l.length fr i && highB l.length ti i) l.length
set_option maxHeartbeats 8000000 in
/-- 'R.Span'. -/
theorem rSpan {w0 w : World} {v : Value} {l : List Sc} {fr ti : Int} {back : Bool} {R : HP} (hb : l.length ≤ 1000000) (S : Sat w0 w (rS v l * R)) :
    Calls Try.prog 20 #[v, .int .i64 fr, .int .i64 ti, .bool back] w fun en w' => ∃ u, en = .returned u ∧ Sat w0 w' (rS u (spanR l fr ti back) * (rS v l * R)) := by
  have HS := Lib.hid S
  have hbi : (l.length : Int) ≤ 1000000 := by omega
  have HB := Lib.hid hb
  clear S hb
  go_enter Try.func20, Try.ntmps20
  go_wp2_with fail
  refine (rWay HB.out HS.out).mono ?_
  rintro en w1 ⟨u, rfl, S1⟩
  obtain ⟨R', S1'⟩ := S1.two_way
  obtain ⟨A, c, rfl, hc, -⟩ := Sat.row_C flatS rfl S1'
  rw [wayS_length] at S1 hc ⊢
  have HS1 := Lib.hid (S1.row_nil 30 2)
  clear S1 S1' HS hc
  go_wp2_with fail
  go_loopw [10, 12] (fun v10 v12 wr => ∃ i : Nat, v12 = .int .i64 i ∧ i ≤ l.length ∧ Hid (Sat w0 wr (rS v10 (selA (wayS l back) (fun i => lowB l.length fr i && highB l.length ti i) i) * (twoS v (.slice A l.length c) l back * R)))) (fun _ v12 _ => l.length - (RowKit.intOf v12).toNat)
  case atStart => exact ⟨0, rfl, by omega, HS1⟩
  case round =>
    clear HS1
    obtain ⟨i, rfl, hi, HSi⟩ := hrel
    by_cases hlt : i < l.length
    · have hlti : (i : Int) < (l.length : Int) := by omega
      obtain ⟨bl, hbl⟩ : ∃ bl, bl = lowB l.length fr i := ⟨_, rfl⟩
      obtain ⟨bh, hbh⟩ : ∃ bh, bh = highB l.length ti i := ⟨_, rfl⟩
      have HBL := Lib.hid hbl
      have HBH := Lib.hid hbh
      clear hbl hbh
      go_upto_if 29 with (fail)
      go_cut [13] (fun s13 wx => s13 = .bool bl ∧ wx = wr)
      case first =>
        go_wp2_with fail
        all_goals
          go_meet
          refine ⟨?_, rfl⟩
          rw [HBL.out]
          unfold lowB
          first | rw [if_pos (by omega)] | rw [if_neg (by omega)]
      case rest =>
        obtain ⟨rfl, rfl⟩ := hcut
        go_upto_if 39 with (fail)
        go_cut [14] (fun s14 wx => s14 = .bool bh ∧ wx = wc)
        case first =>
          go_wp2_with fail
          all_goals
            go_meet
            refine ⟨?_, rfl⟩
            rw [HBH.out]
            unfold highB
            first | rw [if_pos (by omega)] | rw [if_neg (by omega)]
        case rest =>
          obtain ⟨rfl, rfl⟩ := hcut
          have hP : (lowB l.length fr i && highB l.length ti i) = (bl && bh) := by rw [← HBL.out, ← HBH.out]
          cases hp : (bl && bh) with
          | false =>
            have HX : Hid (selA (wayS l back) (fun i => lowB l.length fr i && highB l.length ti i) (i + 1) = selA (wayS l back) (fun i => lowB l.length fr i && highB l.length ti i) i) := Lib.hid (by
              show _ ++ (if (lowB l.length fr i && highB l.length ti i) = true then _ else _) = _
              rw [hP, hp]
              simp)
            clear hP HBL HBH
            cases bl with
            | false =>
              clear hp
              go_wp2_with fail
              go_roundw
              case rel => exact ⟨i + 1, by simp, by omega, Lib.hid (by rw [HX.out]; exact HSi.out)⟩
              case measure => simp [RowKit.intOf]; omega
            | true =>
              obtain rfl : bh = false := by simpa using hp
              clear hp
              go_wp2_with fail
              go_roundw
              case rel => exact ⟨i + 1, by simp, by omega, Lib.hid (by rw [HX.out]; exact HSi.out)⟩
              case measure => simp [RowKit.intOf]; omega
          | true =>
            obtain ⟨rfl, rfl⟩ := Bool.and_eq_true_iff.1 hp
            have hwl : i < (wayS l back).length := by rw [wayS_length]; exact hlt
            have HX : Hid (selA (wayS l back) (fun i => lowB l.length fr i && highB l.length ti i) (i + 1) = selA (wayS l back) (fun i => lowB l.length fr i && highB l.length ti i) i ++ [(wayS l back)[i]]) := Lib.hid (by
              show _ ++ (if (lowB l.length fr i && highB l.length ti i) = true then _ else _) = _
              rw [hP, hp, if_pos rfl, List.getElem?_eq_getElem hwl]
              rfl)
            have HLE := Lib.hid (selA_le (wayS l back) (fun i => lowB l.length fr i && highB l.length ti i) i)
            obtain ⟨acc, hacc⟩ : ∃ acc, acc = selA (wayS l back) (fun i => lowB l.length fr i && highB l.length ti i) i := ⟨_, rfl⟩
            rw [← hacc] at HX HLE HSi
            obtain ⟨R2, S2⟩ := HSi.out.p2.two_way
            obtain ⟨g, e1, x0, x1⟩ := (S2.cong (B := rS (.slice A (wayS l back).length c) (wayS l back) * R2) (by rw [wayS_length])).rS_two hwl
            subst e1
            obtain ⟨y, hy⟩ : ∃ y, y = (wayS l back)[i] := ⟨_, rfl⟩
            rw [← hy] at x0 x1 HX
            have S3 := HSi.out.alloc (.cells #[.string y.f0, .int .i64 y.f1] 30)
            obtain ⟨q0, q1, -⟩ := blk2 S3.blk
            obtain ⟨v', w', hr, S4⟩ := Sat.rS_append (x := y) (by have := HLE.out; omega) S3.p2 wc.heap.size 1 q0 q1
            have HS4 := Lib.hid (S4.p2.drop1)
            clear hP HBL HBH S2 S3 S4 q0 q1 hacc hy hp
            go_upto_region 6 with (at_builtin; refine wpList_append_eq rfl _ _ _ _ rfl rfl rfl hr ?_)
            clear hr x0 x1 HSi
            go_wp2_with fail
            go_roundw
            case rel => exact ⟨i + 1, by simp, by omega, Lib.hid (by rw [HX.out]; exact HS4.out)⟩
            case measure => simp [RowKit.intOf]; omega
    · have hi2 : i = l.length := by omega
      subst hi2
      clear hlt hi
      go_wp2_with fail
      go_ret
      exact ⟨_, rfl, by
        have h := HSi.out.p2.two_row
        exact h.p2⟩
end Go.Sl
/-! ### RzR -/
namespace Go.Sl
open Go.RowKit Go.Proofs Go.Proofs.YteakblblpiihpaaW.PrintWords Go.Proofs.Yteakblblpiihpaa.PZs Go.Sl.DI64
set_option linter.unusedVariables false
set_option linter.unusedSimpArgs false
set_option maxRecDepth 100000

/-- Is a score in a range? -/
def inB (li ls : Int) (lo : Bool) (hi hs : Int) (ho : Bool) (s : Int) : Bool :=
  (decide (li < 0) || (decide (li = 0) && (decide (ls < s) || (decide (s = ls) && !lo)))) && (decide (0 < hi) || (decide (hi = 0) && (decide (s < hs) || (decide (s = hs) && !ho))))
set_option maxHeartbeats 4000000 in
theorem in_f (li ls : Int) (lo : Bool) (hi hs : Int) (ho : Bool) (s : Int) : mewsref24_In.f li ls lo hi hs ho s = some (inB li ls lo hi hs ho s) := by
  unfold mewsref24_In.f inB
  simp only [gt_iff_lt]
  have tri : ∀ a b : Int, (((a < b) = True) ∧ ((b < a) = False) ∧ ((a = b) = False)) ∨ (((a < b) = False) ∧ ((b < a) = False) ∧ ((a = b) = True)) ∨ (((a < b) = False) ∧ ((b < a) = True) ∧ ((a = b) = False)) := fun a b => by
    rcases Int.lt_trichotomy a b with h | h | h
    · exact .inl ⟨eq_true h, eq_false (by omega), eq_false (by omega)⟩
    · exact .inr (.inl ⟨eq_false (by omega), eq_false (by omega), eq_true h⟩)
    · exact .inr (.inr ⟨eq_false (by omega), eq_true h, eq_false (by omega)⟩)
  rcases tri li 0 with ⟨a1, a2, a3⟩ | ⟨a1, a2, a3⟩ | ⟨a1, a2, a3⟩ <;> rcases tri hi 0 with ⟨b1, b2, b3⟩ | ⟨b1, b2, b3⟩ | ⟨b1, b2, b3⟩ <;>
    rcases tri s ls with ⟨c1, c2, c3⟩ | ⟨c1, c2, c3⟩ | ⟨c1, c2, c3⟩ <;> rcases tri s hs with ⟨d1, d2, d3⟩ | ⟨d1, d2, d3⟩ | ⟨d1, d2, d3⟩ <;> cases lo <;> cases ho <;>
    simp only [a1, a2, a3, b1, b2, b3, c1, c2, c3, d1, d2, d3, decide_true, decide_false, Bool.true_or, Bool.false_or, Bool.true_and, Bool.false_and, Bool.and_true, Bool.and_false, Bool.or_true, Bool.or_false, Bool.not_true, Bool.not_false, Bool.false_eq_true, if_true, if_false]
/-- What is told of those that are in the range. -/
def outC (F : List Sc) (skip count : Int) : List Sc := if count < 0 then F.drop skip.toNat else (F.drop skip.toNat).take count.toNat
theorem outC_snoc (F : List Sc) (y : Sc) {skip count : Int} (h0 : 0 ≤ skip) : outC (F ++ [y]) skip count = if skip < (F.length : Int) + 1 ∧ (count < 0 ∨ ((outC F skip count).length : Int) < count) then outC F skip count ++ [y] else outC F skip count := by
  unfold outC
  by_cases h1 : skip < (F.length : Int) + 1
  · have e1 : (F ++ [y]).drop skip.toNat = F.drop skip.toNat ++ [y] := by rw [List.drop_append_of_le_length (by omega)]
    by_cases h2 : count < 0
    · rw [if_pos h2, if_pos h2, if_pos ⟨h1, .inl h2⟩, e1]
    · rw [if_neg h2, if_neg h2, e1]
      by_cases h3 : (F.drop skip.toNat).length < count.toNat
      · rw [if_pos ⟨h1, .inr (by rw [List.length_take]; omega)⟩, List.take_append, List.take_of_length_le (by omega), show count.toNat - (F.drop skip.toNat).length = (count.toNat - (F.drop skip.toNat).length - 1) + 1 by omega]
        simp
      · rw [if_neg (fun h => by
          rcases h.2 with h | h
          · exact h2 h
          · rw [List.length_take] at h; omega), List.take_append_of_le_length (by omega)]
  · have e1 : (F ++ [y]).drop skip.toNat = [] := List.drop_of_length_le (by simp; omega)
    have e2 : F.drop skip.toNat = [] := List.drop_of_length_le (by omega)
    rw [e1, e2, if_neg (c := _ ∧ _) (fun h => h1 h.1)]
theorem outC_le (F : List Sc) (skip count : Int) : (outC F skip count).length ≤ F.length := by
  unfold outC
  split
  · simp
  · simp; omega
def rangeR (l : List Sc) (li ls : Int) (lo : Bool) (hi hs : Int) (ho : Bool) (back : Bool) (skip count : Int) : List Sc :=
  if skip < 0 then [] else outC ((wayS l back).filter fun x => inB li ls lo hi hs ho x.f1) skip count
theorem cellsQ {w0 w : World} {b1 b2 g i c : Nat} {li ls hi hs : Int} {lo ho : Bool} {m : List Sc} {R : HP} (h : i < m.length) (S : Sat w0 w (pts b2 (bndO hi hs ho) * (pts b1 (bndO li ls lo) * (rS (.slice (some ⟨g, 0, none⟩) m.length c) m * R)))) :
    (w.cell? ⟨b1, 0, none⟩ = some (.int .i64 li) ∧ w.cell? ⟨b1, 1, none⟩ = some (.int .i64 ls) ∧ w.cell? ⟨b1, 2, none⟩ = some (.bool lo)) ∧ (w.cell? ⟨b2, 0, none⟩ = some (.int .i64 hi) ∧ w.cell? ⟨b2, 1, none⟩ = some (.int .i64 hs) ∧ w.cell? ⟨b2, 2, none⟩ = some (.bool ho)) ∧ w.cell? ⟨g, i * 2 + 1, none⟩ = some (.int .i64 m[i].f1) := by
  obtain ⟨a0, a1, a2, _⟩ := blk3 S.p2.blk
  obtain ⟨c0, c1, c2, _⟩ := blk3 S.blk
  obtain ⟨g', e1, x0, x1⟩ := S.p3.rS_two h
  cases e1
  exact ⟨⟨a0, a1, a2⟩, ⟨c0, c1, c2⟩, x1⟩
theorem Sat.two_at {w0 w : World} {v : Value} {A : Option Addr} {n c i : Nat} {l : List Sc} {back : Bool} {R : HP} (S : Sat w0 w (twoS v (.slice A n c) l back * R)) (h : i < (wayS l back).length) :
    ∃ g, A = some ⟨g, 0, none⟩ ∧ w.cell? ⟨g, i * 2, none⟩ = some (.string (wayS l back)[i].f0) ∧ w.cell? ⟨g, i * 2 + 1, none⟩ = some (.int .i64 (wayS l back)[i].f1) := by
  obtain ⟨R', S'⟩ := S.two_way
  exact S'.rS_two h
theorem cellsW {w0 w : World} {b1 b2 g i c n : Nat} {v : Value} {li ls hi hs : Int} {lo ho back : Bool} {l : List Sc} {O R : HP} (h : i < (wayS l back).length) (S : Sat w0 w (O * (twoS v (.slice (some ⟨g, 0, none⟩) n c) l back * (pts b2 (bndO hi hs ho) * (pts b1 (bndO li ls lo) * R))))) :
    (w.cell? ⟨b1, 0, none⟩ = some (.int .i64 li) ∧ w.cell? ⟨b1, 1, none⟩ = some (.int .i64 ls) ∧ w.cell? ⟨b1, 2, none⟩ = some (.bool lo)) ∧ (w.cell? ⟨b2, 0, none⟩ = some (.int .i64 hi) ∧ w.cell? ⟨b2, 1, none⟩ = some (.int .i64 hs) ∧ w.cell? ⟨b2, 2, none⟩ = some (.bool ho)) ∧ w.cell? ⟨g, i * 2 + 1, none⟩ = some (.int .i64 (wayS l back)[i].f1) := by
  obtain ⟨a0, a1, a2, _⟩ := blk3 S.p4.blk
  obtain ⟨c0, c1, c2, _⟩ := blk3 S.p3.blk
  obtain ⟨g', e1, x0, x1⟩ := S.p2.two_at h
  cases e1
  exact ⟨⟨a0, a1, a2⟩, ⟨c0, c1, c2⟩, x1⟩
theorem filter_take (m : List Sc) (p : Sc → Bool) {i : Nat} (h : i < m.length) : (m.take (i + 1)).filter p = (m.take i).filter p ++ if p m[i] then [m[i]] else [] := by
  rw [List.take_add_one, List.getElem?_eq_getElem h, Option.toList_some, List.filter_append]
  congr 1
  by_cases e : p m[i] = true
  · rw [if_pos e, List.filter_cons_of_pos e]; rfl
  · rw [if_neg e, List.filter_cons_of_neg e]; rfl
set_option maxHeartbeats 16000000 in
/-- 'R.Range'. -/
theorem rRange {w0 w : World} {v : Value} {l : List Sc} {li ls hi hs skip count : Int} {lo ho back : Bool} {R : HP} (hb : l.length ≤ 1000000) (S : Sat w0 w (rS v l * R)) :
    Calls Try.prog 21 #[v, bndV li ls lo, bndV hi hs ho, .bool back, .int .i64 skip, .int .i64 count] w fun en w' => ∃ u, en = .returned u ∧ Sat w0 w' (rS u (rangeR l li ls lo hi hs ho back skip count) * (rS v l * R)) := by
  have HB := Lib.hid hb
  have hbi : (l.length : Int) ≤ 1000000 := by omega
  obtain ⟨b1, hb1⟩ : ∃ b1, b1 = w.heap.size := ⟨_, rfl⟩
  have S0 := (S.alloc (bndO li ls lo)).alloc (bndO hi hs ho)
  rw [World.size_alloc, ← hb1] at S0
  have HS := Lib.hid S0
  have HB1 := Lib.hid hb1
  clear S S0 hb1 hb
  go_enter Try.func21, Try.ntmps21
  go_upto_region 1 with (fail)
  rw [← HB1.out]
  refine gen_w HS.out ?_
  clear HS HB1
  intro w1 S1
  have HS := Lib.hid S1
  clear S1
  by_cases hsk : skip < 0
  · have hskd : decide (skip < 0) = true := by simpa using hsk
    have HE : Hid (rangeR l li ls lo hi hs ho back skip count = []) := Lib.hid (by unfold rangeR; rw [if_pos hsk])
    clear hsk
    go_wp2_with fail
    go_ret
    exact ⟨_, rfl, by rw [HE.out]; exact (HS.out.drop1.drop1).row_nil _ _⟩
  have hskd : decide (skip < 0) = false := by simpa using hsk
  have HSK := Lib.hid (show 0 ≤ skip by omega)
  have HE : Hid (rangeR l li ls lo hi hs ho back skip count = outC ((wayS l back).filter fun x => inB li ls lo hi hs ho x.f1) skip count) := Lib.hid (by unfold rangeR; rw [if_neg hsk])
  clear hsk
  go_wp2_with fail
  refine (rWay HB.out HS.out.p3).mono ?_
  rintro en w2 ⟨u, rfl, S2⟩
  obtain ⟨R', S2'⟩ := S2.two_way
  obtain ⟨A, c, rfl, hc, -⟩ := Sat.row_C flatS rfl S2'
  rw [wayS_length] at S2 hc ⊢
  have HS2 := Lib.hid (S2.row_nil 30 2)
  clear S2 S2' HS hc
  go_wp2_with fail
  go_loopw [13, 15, 16] (fun v13 v15 v16 wr => ∃ (i : Nat) (F : List Sc) (A2 : Option Addr) (c2 : Nat), v16 = .int .i64 i ∧ v15 = .int .i64 F.length ∧ v13 = .slice A2 (outC F skip count).length c2 ∧ i ≤ l.length ∧ Hid (F = ((wayS l back).take i).filter fun x => inB li ls lo hi hs ho x.f1) ∧ Hid (Sat w0 wr (rS (.slice A2 (outC F skip count).length c2) (outC F skip count) * (twoS v (.slice A l.length c) l back * (pts (b1 + 1) (bndO hi hs ho) * (pts b1 (bndO li ls lo) * R)))))) (fun _ _ v16 _ => l.length - (RowKit.intOf v16).toNat)
  case atStart =>
    have h0 : outC [] skip count = [] := by unfold outC; simp
    exact ⟨0, [], none, 0, rfl, rfl, by rw [h0]; rfl, by omega, Lib.hid (by simp), by rw [h0]; exact HS2⟩
  case round =>
    clear HS2
    obtain ⟨i, F, A2, c2, rfl, rfl, rfl, hil, HF, HSi⟩ := hrel
    by_cases hlt : i < l.length
    · have hwl : i < (wayS l back).length := by rw [wayS_length]; exact hlt
      obtain ⟨g, e1, -, -⟩ := HSi.out.p2.two_at hwl
      subst e1
      obtain ⟨y, hy⟩ : ∃ y, y = (wayS l back)[i] := ⟨_, rfl⟩
      obtain ⟨bi, hbi2⟩ : ∃ bi, bi = inB li ls lo hi hs ho y.f1 := ⟨_, rfl⟩
      have HNX : Hid (((wayS l back).take (i + 1)).filter (fun x => inB li ls lo hi hs ho x.f1) = F ++ if bi then [y] else []) := Lib.hid (by rw [filter_take _ _ hwl, ← HF.out, ← hy, hbi2])
      have HFL : Hid (F.length ≤ i) := Lib.hid (by rw [HF.out]; refine Nat.le_trans (List.length_filter_le _ _) ?_; rw [List.length_take]; omega)
      have hFi : (F.length : Int) ≤ 1000000 := by have := HFL.out; omega
      have HOL := Lib.hid (outC_le F skip count)
      have HIN := Lib.hid ((in_f li ls lo hi hs ho y.f1).trans (by rw [← hbi2]))
      have HY := Lib.hid hy
      have hlti : (i : Int) < (l.length : Int) := by omega
      clear hy hbi2 HF
      have hcW := cellsW hwl HSi.out
      rw [← HY.out] at hcW
      have HCW := Lib.hid hcW
      clear hcW
      go_upto_region 9 with (fail)
      go_region_held3 (fun w' => (w'.cell? ⟨b1, 0, none⟩ = some (.int .i64 li) ∧ w'.cell? ⟨b1, 1, none⟩ = some (.int .i64 ls) ∧ w'.cell? ⟨b1, 2, none⟩ = some (.bool lo)) ∧ (w'.cell? ⟨b1 + 1, 0, none⟩ = some (.int .i64 hi) ∧ w'.cell? ⟨b1 + 1, 1, none⟩ = some (.int .i64 hs) ∧ w'.cell? ⟨b1 + 1, 2, none⟩ = some (.bool ho)) ∧ w'.cell? ⟨g, i * 2 + 1, none⟩ = some (.int .i64 y.f1))
        (first | exact HCW.out | (rw [HY.out]; exact cellsW hwl HSc.out))
        ((go_at_call 50; refine (mewsref24_In.calls li ls lo hi hs ho y.f1 bi _ HIN.out).mono ?_; rintro en w4 ⟨rfl, hb4⟩; have HSc := Lib.hid (HSi.out.drew.below hb4); clear hb4))
      clear HCW HSi
      cases bi with
      | false =>
        go_wp2_with fail
        go_roundw
        case rel => exact ⟨i + 1, F, A2, c2, by simp, rfl, rfl, by omega, Lib.hid (by rw [HNX.out]; simp), HSc⟩
        case measure => simp [RowKit.intOf]; omega
      | true =>
        by_cases hg : skip < (F.length : Int) + 1
        · have hgd : decide (skip < (F.length : Int) + 1) = true := by simpa using hg
          by_cases hc0 : count < 0
          · have hcd : decide (count < 0) = true := by simpa using hc0
            have HO : Hid (outC (F ++ [y]) skip count = outC F skip count ++ [y]) := Lib.hid (by rw [outC_snoc F y HSK.out, if_pos ⟨hg, .inl hc0⟩])
            clear hg hc0
            obtain ⟨acc, hacc⟩ : ∃ acc, acc = outC F skip count := ⟨_, rfl⟩
            rw [← hacc] at HSc HO HOL ⊢
            obtain ⟨g', e0, z0, z1⟩ := HSc.out.p2.two_at hwl
            cases e0
            rw [← HY.out] at z0 z1
            have S3 := HSc.out.alloc (.cells #[.string y.f0, .int .i64 y.f1] 30)
            obtain ⟨q0, q1, -⟩ := blk2 S3.blk
            obtain ⟨v', w', hr, S4⟩ := Sat.rS_append (x := y) (by have := HOL.out; have := HFL.out; omega) S3.p2 w4.heap.size 1 q0 q1
            obtain ⟨A3, c3, rfl, -, -⟩ := Sat.row_C flatS rfl S4
            have HS4 := Lib.hid (S4.p2.drop1)
            clear S3 S4 q0 q1 hacc
            go_upto_region 8 with (at_builtin; refine wpList_append_eq rfl _ _ _ _ rfl rfl rfl hr ?_)
            clear hr z0 z1 HSc
            go_wp2_with fail
            go_roundw
            case rel => exact ⟨i + 1, F ++ [y], A3, c3, by simp, by simp, by rw [HO.out]; simp, by omega, Lib.hid (by rw [HNX.out]; rfl), Lib.hid (by rw [HO.out]; exact HS4.out)⟩
            case measure => simp [RowKit.intOf]; omega
          · have hcd : decide (count < 0) = false := by simpa using hc0
            by_cases hcl : ((outC F skip count).length : Int) < count
            · have hcld : decide (((outC F skip count).length : Int) < count) = true := by simpa using hcl
              have HO : Hid (outC (F ++ [y]) skip count = outC F skip count ++ [y]) := Lib.hid (by rw [outC_snoc F y HSK.out, if_pos ⟨hg, .inr hcl⟩])
              clear hg hcl hc0
              obtain ⟨acc, hacc⟩ : ∃ acc, acc = outC F skip count := ⟨_, rfl⟩
              rw [← hacc] at HSc HO HOL hcld ⊢
              obtain ⟨g', e0, z0, z1⟩ := HSc.out.p2.two_at hwl
              cases e0
              rw [← HY.out] at z0 z1
              have S3 := HSc.out.alloc (.cells #[.string y.f0, .int .i64 y.f1] 30)
              obtain ⟨q0, q1, -⟩ := blk2 S3.blk
              obtain ⟨v', w', hr, S4⟩ := Sat.rS_append (x := y) (by have := HOL.out; have := HFL.out; omega) S3.p2 w4.heap.size 1 q0 q1
              obtain ⟨A3, c3, rfl, -, -⟩ := Sat.row_C flatS rfl S4
              have HS4 := Lib.hid (S4.p2.drop1)
              clear S3 S4 q0 q1 hacc
              go_upto_region 8 with (at_builtin; refine wpList_append_eq rfl _ _ _ _ rfl rfl rfl hr ?_)
              clear hr z0 z1 HSc
              go_wp2_with fail
              go_roundw
              case rel => exact ⟨i + 1, F ++ [y], A3, c3, by simp, by simp, by rw [HO.out]; simp, by omega, Lib.hid (by rw [HNX.out]; rfl), Lib.hid (by rw [HO.out]; exact HS4.out)⟩
              case measure => simp [RowKit.intOf]; omega
            · have hcld : decide (((outC F skip count).length : Int) < count) = false := by simpa using hcl
              have HO : Hid (outC (F ++ [y]) skip count = outC F skip count) := Lib.hid (by rw [outC_snoc F y HSK.out, if_neg (fun h => h.2.elim hc0 hcl)])
              go_wp2_with fail
              go_roundw
              case rel => exact ⟨i + 1, F ++ [y], A2, c2, by simp, by simp, by rw [HO.out], by omega, Lib.hid (by rw [HNX.out]; rfl), Lib.hid (by rw [HO.out]; exact HSc.out)⟩
              case measure => simp [RowKit.intOf]; omega
        · have hgd : decide (skip < (F.length : Int) + 1) = false := by simpa using hg
          have HO : Hid (outC (F ++ [y]) skip count = outC F skip count) := Lib.hid (by rw [outC_snoc F y HSK.out, if_neg (fun h => hg h.1)])
          go_wp2_with fail
          go_roundw
          case rel => exact ⟨i + 1, F ++ [y], A2, c2, by simp, by simp, by rw [HO.out], by omega, Lib.hid (by rw [HNX.out]; rfl), Lib.hid (by rw [HO.out]; exact HSc.out)⟩
          case measure => simp [RowKit.intOf]; omega
    · have hi2 : i = l.length := by omega
      have HF2 : Hid (outC F skip count = rangeR l li ls lo hi hs ho back skip count) := Lib.hid (by
        rw [HE.out, HF.out, List.take_of_length_le (by rw [wayS_length]; omega)])
      clear hlt hil HF
      subst hi2
      go_wp2_with fail
      go_ret
      exact ⟨_, rfl, by
        rw [← HF2.out]
        exact (HSi.out.p2.two_row.cong (B := pts (b1 + 1) (bndO hi hs ho) * (pts b1 (bndO li ls lo) * (rS _ (outC F skip count) * (rS v l * R)))) (by ac_rfl)).drop1.drop1⟩
end Go.Sl
/-! ### RzA -/
namespace Go.Sl
open Go.RowKit Go.Proofs Go.Sl Go.Proofs.YteakblblpiihpaaW.PrintWords Go.Proofs.Yteakblblpiihpaa.PZs Go.Sl.DI64
set_option linter.unusedVariables false
set_option linter.unusedSimpArgs false
set_option maxRecDepth 100000

theorem selA_cut (m : List Sc) (a b : Int) (P : Nat → Bool) (hP : ∀ i, i < m.length → P i = decide (a ≤ (i : Int) ∧ (i : Int) ≤ b)) (ha : 0 ≤ a) : ∀ i, i ≤ m.length → selA m P i = ((m.take i).drop a.toNat).take (b + 1 - a).toNat := by
  intro i
  induction i with
  | zero => intro _; simp [selA]
  | succ i ih =>
    intro hi
    have h1 : i < m.length := by omega
    rw [selA, ih (by omega), hP i h1, List.take_add_one, List.getElem?_eq_getElem h1]
    simp only [Option.toList_some]
    by_cases e1 : a ≤ (i : Int)
    · obtain ⟨D, hD⟩ : ∃ D, D = (m.take i).drop a.toNat := ⟨_, rfl⟩
      have hd : (m.take i ++ [m[i]]).drop a.toNat = D ++ [m[i]] := by rw [hD]; exact List.drop_append_of_le_length (by rw [List.length_take]; omega)
      have hlen : D.length = i - a.toNat := by rw [hD, List.length_drop, List.length_take]; omega
      rw [hd, ← hD]
      by_cases e2 : (i : Int) ≤ b
      · rw [if_pos (by simp [e1, e2]), List.take_append, List.take_of_length_le (l := D) (by omega), List.take_of_length_le (l := [m[i]]) (by simp; omega)]
      · rw [if_neg (by simp [e2]), List.append_nil, List.take_append_of_le_length (by omega)]
    · rw [if_neg (by simp [e1]), List.append_nil, List.drop_of_length_le (by rw [List.length_take]; omega), List.drop_of_length_le (by rw [List.length_append, List.length_take]; simp; omega)]
theorem span_eq (l : List Sc) (fr ti : Int) (back : Bool) : spanS l fr ti back = spanR l fr ti back := by
  unfold spanR
  have hw := wayS_length l back
  have h := selA_cut (wayS l back) (spF l.length fr) (spT l.length ti) (fun i => lowB l.length fr i && highB l.length ti i) (fun i hi => by
    rw [hw] at hi
    unfold lowB highB spF spT
    rw [Bool.eq_iff_iff]
    simp only [Bool.and_eq_true, decide_eq_true_eq]
    split <;> split <;> simp only [decide_eq_true_eq] <;> omega) (by unfold spF; split <;> omega) l.length (by omega)
  rw [List.take_of_length_le (l := wayS l back) (by omega)] at h
  rw [h]
  unfold spanS cutS
  have h0 : 0 ≤ spF l.length fr := by unfold spF; split <;> omega
  by_cases e : spT l.length ti < spF l.length fr
  · rw [if_pos e, show (spT l.length ti + 1 - spF l.length fr).toNat = 0 by omega, List.take_zero]
  · rw [if_neg e]
    congr 1
    omega
/-! ### ranges of scores -/
theorem sorted_le {l : List Sc} (h : ZOk l) {i j : Nat} (hij : i < j) (hj : j < l.length) : l[i].f1 ≤ l[j].f1 := by
  have := (List.pairwise_iff_getElem.1 h.ord) i j (by omega) hj hij
  rw [ltS_iff] at this
  rcases this with h | h <;> omega
theorem part_at {l A B : List Sc} {p : Sc → Bool} (e : A ++ B = l) (h1 : ∀ y ∈ A, p y = true) (h2 : ∀ y ∈ B, p y = false) {i : Nat} (hi : i < l.length) : p l[i] = decide (i < A.length) := by
  subst e
  rw [List.getElem_append]
  split
  · rename_i h
    rw [decide_eq_true h]
    exact h1 _ (List.getElem_mem h)
  · rename_i h
    rw [decide_eq_false h]
    exact h2 _ (List.getElem_mem _)
theorem blw_at {l : List Sc} (h : ZOk l) (s : Int) (op : Bool) {i : Nat} (hi : i < l.length) : beB l[i].f1 s op = decide (i < blw l s op) := by
  obtain ⟨h1, h2⟩ := blw_split h s op
  exact part_at (p := fun x => beB x.f1 s op) (List.takeWhile_append_dropWhile (p := fun x : Sc => beB x.f1 s op) (l := l)) h1 h2 hi
theorem inB_at {l : List Sc} (h : ZOk l) (li ls : Int) (lo : Bool) (hi hs : Int) (ho : Bool) {i : Nat} (hil : i < l.length) : inB li ls lo hi hs ho l[i].f1 = decide (fromI l li ls lo ≤ i ∧ i < toI l hi hs ho) := by
  have h1 := blw_at h ls lo hil
  have h2 := blw_at h hs (!ho) hil
  unfold inB fromI toI
  have ea : (decide (li < 0) || (decide (li = 0) && (decide (ls < l[i].f1) || (decide (l[i].f1 = ls) && !lo)))) = decide ((if 0 < li then l.length else if li = 0 then blw l ls lo else 0) ≤ i) := by
    rcases Int.lt_trichotomy li 0 with e | e | e
    · rw [if_neg (by omega), if_neg (by omega)]
      simp [e]
    · rw [if_neg (by omega), if_pos e]
      have : (decide (blw l ls lo ≤ i)) = !(beB l[i].f1 ls lo) := by
        rw [h1]
        by_cases q : i < blw l ls lo
        · simp [q]
        · simp [q, Nat.le_of_not_lt q]
      rw [this]
      unfold beB
      subst e
      cases lo <;> rw [Bool.eq_iff_iff] <;> simp <;> omega
    · rw [if_pos e]
      have : ¬ l.length ≤ i := by omega
      simp [this, Int.not_lt.2 (Int.le_of_lt e), Int.ne_of_gt e]
  have eb : (decide (0 < hi) || (decide (hi = 0) && (decide (l[i].f1 < hs) || (decide (l[i].f1 = hs) && !ho)))) = decide (i < if hi < 0 then 0 else if hi = 0 then blw l hs (!ho) else l.length) := by
    rcases Int.lt_trichotomy hi 0 with e | e | e
    · rw [if_pos e]
      simp [Int.not_lt.2 (Int.le_of_lt e), Int.ne_of_lt e]
    · rw [if_neg (by omega), if_pos e, ← h2]
      unfold beB
      subst e
      cases ho <;> rw [Bool.eq_iff_iff] <;> simp <;> omega
    · rw [if_neg (by omega), if_neg (by omega)]
      simp [e, hil]
  rw [ea, eb]
  simp
theorem filter_range {m : List Sc} {p : Sc → Bool} {f t : Nat} (hp : ∀ i (h : i < m.length), p m[i] = decide (f ≤ i ∧ i < t)) : m.filter p = (m.drop f).take (t - f) := by
  have h := selA_cut m (f : Int) ((t : Int) - 1) (fun i => decide (f ≤ i ∧ i < t)) (fun i hi => by
    apply decide_eq_decide.2
    omega) (by omega) m.length (Nat.le_refl _)
  have h2 : ∀ i, i ≤ m.length → selA m (fun i => decide (f ≤ i ∧ i < t)) i = (m.take i).filter p := by
    intro i
    induction i with
    | zero => intro _; rfl
    | succ i ih =>
      intro hi
      rw [filter_take _ _ (by omega), selA, ih (by omega), hp i (by omega), List.getElem?_eq_getElem (by omega)]
      rfl
  rw [h2 m.length (Nat.le_refl _), List.take_of_length_le (Nat.le_refl _)] at h
  rw [h, Int.toNat_natCast]
  congr 1
  omega
theorem filter_eq {l : List Sc} (h : ZOk l) (li ls : Int) (lo : Bool) (hi hs : Int) (ho : Bool) : l.filter (fun x => inB li ls lo hi hs ho x.f1) = (l.drop (fromI l li ls lo)).take (upI l li ls lo hi hs ho - fromI l li ls lo) := by
  rw [filter_range (fun i hil => inB_at h li ls lo hi hs ho hil)]
  congr 1
  unfold upI
  omega
theorem part_rev (l : List Sc) {f t : Nat} (hft : f ≤ t) (ht : t ≤ l.length) : ((l.drop f).take (t - f)).reverse = (l.reverse.drop (l.length - t)).take (t - f) := by
  rw [List.reverse_take, List.length_drop, List.reverse_drop, List.drop_take]
  rw [show l.length - f - (t - f) = l.length - t by omega, show l.length - f - (l.length - t) = t - f by omega]
theorem range_eq {l : List Sc} (h : ZOk l) (li ls : Int) (lo : Bool) (hi hs : Int) (ho : Bool) (back : Bool) (skip count : Int) :
    rangeI l (fromI l li ls lo) (upI l li ls lo hi hs ho) back skip count = rangeR l li ls lo hi hs ho back skip count := by
  have hF := filter_eq h li ls lo hi hs ho
  obtain ⟨f, hf⟩ : ∃ f, f = fromI l li ls lo := ⟨_, rfl⟩
  obtain ⟨t, ht⟩ : ∃ t, t = upI l li ls lo hi hs ho := ⟨_, rfl⟩
  have hft : f ≤ t := by rw [hf, ht]; exact Nat.le_max_left _ _
  have htl : t ≤ l.length := by rw [ht]; exact upI_le l li ls lo hi hs ho
  rw [← hf, ← ht] at hF ⊢
  clear hf ht
  -- the part of the list, as it is told
  have hW : (wayS l back).filter (fun x => inB li ls lo hi hs ho x.f1) = ((wayS l back).drop (if back then l.length - t else f)).take (t - f) := by
    cases back with
    | false => exact hF
    | true =>
      show (l.reverse).filter _ = _
      rw [List.filter_reverse, hF]
      exact part_rev l hft htl
  have hwl := wayS_length l back
  unfold rangeR rangeI
  rw [hW]
  obtain ⟨b, hb⟩ : ∃ b : Nat, b = (if back then l.length - t else f) := ⟨_, rfl⟩
  rw [← hb]
  have hbt : b + (t - f) ≤ l.length := by rw [hb]; cases back <;> simp <;> omega
  by_cases e1 : skip < 0
  · rw [if_pos (.inl e1), if_pos e1]
  rw [if_neg e1]
  have hlen : (((wayS l back).drop b).take (t - f)).length = t - f := by rw [List.length_take, List.length_drop, hwl]; omega
  by_cases e2 : (t : Int) - f ≤ skip
  · rw [if_pos (.inr (.inl e2))]
    unfold outC
    rw [List.drop_of_length_le (by omega)]
    simp
  by_cases e3 : count = 0
  · rw [if_pos (.inr (.inr e3))]
    unfold outC
    subst e3
    simp
  rw [if_neg (by omega)]
  obtain ⟨m, hm⟩ : ∃ m : Int, m = if 0 < count then min ((t : Int) - f - skip) count + skip else (t : Int) - f := ⟨_, rfl⟩
  simp only [← hm]
  have hm1 : skip < m := by rw [hm]; split <;> omega
  have hm2 : m ≤ (t : Int) - f := by rw [hm]; split <;> omega
  have hcut : (if back then cutS l ((l.length : Int) - t + skip) ((l.length : Int) - t + m - 1) true else cutS l (f + skip) (f + m - 1) false) = cutS l ((b : Int) + skip) ((b : Int) + m - 1) back := by
    rw [hb]
    cases back with
    | false => rfl
    | true => simp only [if_true]; rw [Int.ofNat_sub htl]
  rw [hcut]
  unfold cutS outC
  rw [if_neg (by omega)]
  have hd : ((((wayS l back).drop b).take (t - f)).drop skip.toNat) = ((wayS l back).drop (b + skip.toNat)).take (t - f - skip.toNat) := by
    rw [List.drop_take, List.drop_drop]
  rw [hd, show ((b : Int) + skip).toNat = b + skip.toNat by omega]
  by_cases e4 : count < 0
  · rw [if_pos e4]
    rw [if_neg (by omega)] at hm
    congr 1
    omega
  · rw [if_neg e4, List.take_take]
    rw [if_pos (by omega)] at hm
    congr 1
    omega
theorem range_rev {l : List Sc} (li ls : Int) (lo : Bool) (hi hs : Int) (ho : Bool) : rangeR l li ls lo hi hs ho true 0 (-1) = (rangeR l li ls lo hi hs ho false 0 (-1)).reverse := by
  unfold rangeR outC wayS
  simp [List.filter_reverse]
theorem count_eq {l : List Sc} (h : ZOk l) (li ls : Int) (lo : Bool) (hi hs : Int) (ho : Bool) : ((rangeR l li ls lo hi hs ho false 0 (-1)).length : Int) = ((upI l li ls lo hi hs ho : Nat) : Int) - (fromI l li ls lo : Nat) := by
  have hF := filter_eq h li ls lo hi hs ho
  have h1 : fromI l li ls lo ≤ upI l li ls lo hi hs ho := Nat.le_max_left _ _
  have h2 := upI_le l li ls lo hi hs ho
  have e : rangeR l li ls lo hi hs ho false 0 (-1) = l.filter fun x => inB li ls lo hi hs ho x.f1 := by unfold rangeR outC wayS; simp
  rw [e, hF, List.length_take, List.length_drop]
  omega
end Go.Sl
/-! ### Ap -/
namespace Go.Sl
open Go.RowKit
set_option linter.unusedVariables false
set_option linter.unusedSimpArgs false
section
variable {w0 w : World} {e n m : Nat} {v v2 : Value} {xs ys : List Value} {R : HP} {P : Program}
theorem run_append_nil {t : TypeId} {i : TypeInfo} (ty : TypeId) (ht : P.underlying t = some (.slice e)) (hi : P.info? e = some i) {A : Option Addr} {n c c2 : Nat} (hn : n ≤ c) (w : World) :
    (Builtin.append_ #[t, t] ty #[.slice A n c, .slice none 0 c2]).run P w = .ok (.slice A n c) w := by
  cases A <;> simp [Builtin.append_, run_underlying ht, sizeOf, typeInfo, hi, Builtin.lenOf, Builtin.firstCells, storeCells, Result.andThen, hn]
/-- 'append(v, nothing...)'. -/
theorem Sat.run_append_zero (S : Sat w0 w (row e 1 v n xs * R)) (t ty : TypeId) {z : Value} {bytes : Nat} (ht : P.underlying t = some (.slice e)) (hinfo : (P.info? e).map (fun i => (i.zero, i.size, i.bytes)) = some (some z, 1, bytes))
    (hzs : z.cells.size = 1) (h63 : n ≤ maxLen) (hbytes : n * bytes ≤ 140737488355328) (A : Option Addr) (c : Nat) :
    ∃ v' w', (Builtin.append_ #[t, t] ty #[v, .slice A 0 c]).run P w = .ok v' w' ∧ Sat w0 w' (row e 1 v' n xs * R) := by
  cases A with
  | none =>
    obtain ⟨i, hi, _⟩ := info_parts hinfo
    obtain ⟨_, h'⟩ := S.row_open
    rcases h' with ⟨rfl, rfl, rfl, _⟩ | ⟨g, cap, cur, rfl, hn, hm, hs, htk, S2⟩
    · exact ⟨_, w, run_append_nil ty ht hi (Nat.le_refl _) w, S⟩
    · exact ⟨_, w, run_append_nil ty ht hi hn w, S⟩
  | some a =>
    obtain ⟨v', w', hr, S'⟩ := S.run_append t ty ht hinfo hzs (by decide) a 0 c [] (by simp) (fun j u hj => by simp at hj) (by simp) (by omega) (by rw [Nat.add_zero]; exact hbytes)
    exact ⟨v', w', hr, by simpa using S'⟩
/-- 'append(v, v2...)', both owned. -/
theorem Sat.run_append_row (S : Sat w0 w (row e 1 v n xs * (row e 1 v2 m ys * R))) (t ty : TypeId) {z : Value} {bytes : Nat} (ht : P.underlying t = some (.slice e)) (hinfo : (P.info? e).map (fun i => (i.zero, i.size, i.bytes)) = some (some z, 1, bytes))
    (hzs : z.cells.size = 1) (h1 : ∀ u ∈ ys, u.oneCell' = true) (h63 : n + m ≤ maxLen) (hbytes : (n + m) * bytes ≤ 140737488355328) :
    ∃ v' w', (Builtin.append_ #[t, t] ty #[v, v2]).run P w = .ok v' w' ∧ Sat w0 w' (row e 1 v' (n + m) (xs ++ ys) * (row e 1 v2 m ys * R)) := by
  obtain ⟨hl, h⟩ := S.p2.row_open
  rcases h with ⟨rfl, rfl, rfl, _⟩ | ⟨g, cap, cur, rfl, hn, hm, hs, htk, S2⟩
  · obtain ⟨i, hi, _⟩ := info_parts hinfo
    obtain ⟨_, h'⟩ := S.row_open
    rcases h' with ⟨rfl, rfl, rfl, _⟩ | ⟨g, cap, cur, rfl, hn, hm, hs, htk, S2⟩
    · exact ⟨_, w, run_append_nil ty ht hi (Nat.le_refl _) w, by simpa using S⟩
    · exact ⟨_, w, run_append_nil ty ht hi hn w, by simpa using S⟩
  · exact S.run_append t ty ht hinfo hzs (by decide) ⟨g, 0, none⟩ m cap ys hl (fun j u hj => by
      obtain ⟨g', e1, hc⟩ := S.p2.row_cells j u hj
      injection e1 with e1
      injection e1 with e1
      subst e1
      rw [Addr.add_lit, Nat.zero_add]
      exact hc) h1 h63 hbytes
end
end Go.Sl
/-! ### RzZ -/
namespace Go.Sl
open Go.RowKit Go.Proofs Go.Proofs.YteakblblpiihpaaW.PrintWords Go.Proofs.Yteakblblpiihpaa.PZs Go.Sl.DI64
set_option linter.unusedVariables false
set_option linter.unusedSimpArgs false
set_option maxRecDepth 100000

theorem flat_dropS : ∀ (hs : List Sc) (m : Nat), (hs.flatMap encS).drop (m * 2) = (hs.drop m).flatMap encS
  | [], m => by simp
  | x :: hs, 0 => by simp
  | x :: hs, m + 1 => by
    rw [List.flatMap_cons, List.drop_succ_cons, show (m + 1) * 2 = m * 2 + 1 + 1 from by omega, ← flat_dropS hs m]
    rfl
theorem flat_takeS : ∀ (hs : List Sc) (m : Nat), (hs.flatMap encS).take (m * 2) = (hs.take m).flatMap encS
  | [], m => by simp
  | x :: hs, 0 => by simp
  | x :: hs, m + 1 => by
    rw [List.flatMap_cons, List.take_succ_cons, List.flatMap_cons, show (m + 1) * 2 = m * 2 + 1 + 1 from by omega, ← flat_takeS hs m]
    rfl
theorem flat_oneS (l : List Sc) : ∀ u ∈ l.flatMap encS, u.oneCell' = true := by
  intro u hu
  obtain ⟨x, _, hx⟩ := List.mem_flatMap.1 hu
  simp only [encS, List.mem_cons, List.not_mem_nil, or_false] at hx
  rcases hx with rfl | rfl <;> rfl
/-- 'append(v, a part of l...)'. -/
theorem sc_app {w0 w : World} {v : Value} {xs l : List Sc} {A A' : Option Addr} {c c' i m : Nat} {R : HP} (S : Sat w0 w (rS v xs * (rS (.slice A l.length c) l * R))) (him : i + m ≤ l.length) (hsz : xs.length + m ≤ 1000000)
    (hA : 0 < m → ∃ g, A = some ⟨g, 0, none⟩ ∧ A' = some ⟨g, i * 2, none⟩) :
    ∃ v' w', (Builtin.append_ #[22, 22] 22 #[v, .slice A' m c']).run Try.prog w = .ok v' w' ∧ Sat w0 w' (rS v' (xs ++ (l.drop i).take m) * (rS (.slice A l.length c) l * R)) := by
  by_cases hm : m = 0
  · subst hm
    cases A' with
    | none =>
      obtain ⟨j, hi, _⟩ := info_parts scInfo
      obtain ⟨_, h'⟩ := S.row_open
      rcases h' with ⟨rfl, _, _, _⟩ | ⟨g, cap, cur, rfl, hn, _, _, _, _⟩
      · exact ⟨_, w, run_append_nil _ Try.underlying22 hi (Nat.le_refl _) w, by rw [List.take_zero, List.append_nil]; exact S⟩
      · exact ⟨_, w, run_append_nil _ Try.underlying22 hi hn w, by rw [List.take_zero, List.append_nil]; exact S⟩
    | some a =>
      obtain ⟨v', w', hr, S'⟩ := S.run_append 22 22 Try.underlying22 scInfo rfl (by decide) a 0 c' [] rfl (fun j u hj => by simp at hj) (by simp) (by unfold maxLen; omega) (by omega)
      exact ⟨v', w', hr, by rw [List.take_zero, List.append_nil]; exact S'.cong (by rw [Nat.add_zero, List.append_nil])⟩
  · obtain ⟨g, rfl, rfl⟩ := hA (by omega)
    have hll : ((l.drop i).take m).length = m := by rw [List.length_take, List.length_drop]; omega
    have hl : (((l.drop i).take m).flatMap encS).length = m * 2 := by
      have := flat_length flatS ((l.drop i).take m)
      rw [hll] at this
      exact this
    have hnews : ∀ j u, (((l.drop i).take m).flatMap encS)[j]? = some u → w.cell? ((⟨g, i * 2, none⟩ : Addr).add j) = some u := fun j u hj => by
      rw [← flat_takeS, ← flat_dropS, List.getElem?_take] at hj
      split at hj
      · rw [List.getElem?_drop] at hj
        obtain ⟨g', e1, hc⟩ := S.p2.row_cells (i * 2 + j) u hj
        injection e1 with e1
        injection e1 with e1
        subst e1
        rw [Addr.add_lit]
        exact hc
      · cases hj
    obtain ⟨v', w', hr, S'⟩ := S.run_append 22 22 Try.underlying22 scInfo rfl (by decide) ⟨g, i * 2, none⟩ m c' _ hl hnews (flat_oneS _) (by unfold maxLen; omega) (by omega)
    exact ⟨v', w', hr, S'.cong (by simp only [rS, List.flatMap_append, List.length_append, hll])⟩
abbrev fromS (A : Option Addr) (c i : Nat) : Option Addr := if c = i then A else A.map (·.add (i * 2))
theorem sc_from {A : Option Addr} {n c i : Nat} (hi : i ≤ n) (W : World) :
    (Instr.slice 22 (.slice A n c) (some (.int .i64 i)) none none).run Try.prog W = .ok (.slice (fromS A c i) (n - i) (c - i)) W := by
  obtain ⟨j, hj, _, hz, _⟩ := info_parts scInfo
  rw [run_slice_from Try.underlying22 hj A n c i (by omega) (by omega) W, hz]
  rfl
theorem sc_to {A : Option Addr} {n c i : Nat} (hi : i ≤ n) (hc : n ≤ c) (W : World) :
    (Instr.slice 22 (.slice A n c) none (some (.int .i64 i)) none).run Try.prog W = .ok (.slice A i c) W := by
  obtain ⟨j, hj, _, hz, _⟩ := info_parts scInfo
  have h1 : (i : Int) ≤ c := by omega
  have h2 : (A.map fun x : Addr => x.add 0) = A := by cases A <;> simp [Addr.add]
  simp [Instr.slice, Instr.sliceBounds, Instr.sliceBound, asIntOf, run_underlying Try.underlying22, sizeOf, typeInfo, hj, Result.andThen, h1, h2, show i ≤ c by omega]
theorem fromS_part {l : List Sc} {A : Option Addr} {c i : Nat} (hc : l.length ≤ c) (hA : 0 < l.length → ∃ g, A = some ⟨g, 0, none⟩) : 0 < l.length - i → ∃ g, A = some ⟨g, 0, none⟩ ∧ fromS A c i = some ⟨g, i * 2, none⟩ := fun h => by
  obtain ⟨g, rfl⟩ := hA (by omega)
  refine ⟨g, rfl, ?_⟩
  unfold fromS
  rw [if_neg (by omega)]
  simp [Addr.add_lit]
theorem rS_at {w0 w : World} {A : Option Addr} {m c : Nat} {l : List Sc} {R : HP} (S : Sat w0 w (rS (.slice A m c) l * R)) : 0 < l.length → ∃ g, A = some ⟨g, 0, none⟩ := fun h => by
  obtain ⟨g, e, _⟩ := S.rS_two h
  exact ⟨g, e⟩
set_option maxHeartbeats 8000000 in
/-- 'Z.Put', of a pair whose member is not there. -/
theorem rZPut {w0 w : World} {v : Value} {l : List Sc} {x : Sc} {R : HP} (hz : l.Pairwise fun a b => ltS a b = true) (hb : l.length < 1000000) (hx : ∀ y ∈ l, y.f0 ≠ x.f0) (S : Sat w0 w (rS v l * R)) :
    Calls Try.prog 61 #[v, .agg #[.string x.f0, .int .i64 x.f1]] w fun en w' => ∃ u, en = .returned (.tuple #[u, .bool true]) ∧ Sat w0 w' (rS u (insS l x) * R) := by
  obtain ⟨A, c, rfl, hc, -⟩ := Sat.row_C flatS rfl S
  obtain ⟨n, hn⟩ : ∃ n, n = (l.takeWhile fun y => ltS y x).length := ⟨_, rfl⟩
  have hnl : n ≤ l.length := by rw [hn]; exact (List.takeWhile_sublist _).length_le
  have HE : Hid (l.take n ++ [x] ++ (l.drop n).take (l.length - n) = insS l x) := Lib.hid (by
    unfold insS
    have e1 : l.take n = l.takeWhile fun y => ltS y x := by
      rw [hn]
      conv => lhs; rw [← List.takeWhile_append_dropWhile (p := fun y => ltS y x) (l := l)]
      rw [List.takeWhile_append_dropWhile]
      conv => lhs; arg 2; rw [← List.takeWhile_append_dropWhile (p := fun y => ltS y x) (l := l)]
      exact List.take_left
    have e2 : l.drop n = l.dropWhile fun y => ltS y x := by
      have h := List.take_append_drop n l
      rw [e1] at h
      exact List.append_cancel_left (h.trans (List.takeWhile_append_dropWhile (p := fun y => ltS y x) (l := l)).symm)
    rw [List.take_of_length_le (l := l.drop n) (by simp), e1, e2]
    simp)
  have HRK := Lib.hid (rank_f hx (by omega))
  have HAH := Lib.hid ((ahead_f (x := x) hz (by omega)).trans (by rw [← hn]))
  have HA := Lib.hid (rS_at S)
  have HC := Lib.hid hc
  have HNL := Lib.hid hnl
  have HB := Lib.hid hb
  obtain ⟨xb, hxb⟩ : ∃ xb, xb = w.heap.size := ⟨_, rfl⟩
  have S0 := S.alloc (scO x)
  rw [← hxb] at S0
  have HS : Hid (Sat w0 _ (rS (.slice A l.length c) l * (pts xb (scO x) * R))) := Lib.hid S0.p2
  have HXB := Lib.hid hxb
  clear S S0 hxb hn hnl hc hz hb hx
  go_enter Try.func61, Try.ntmps61
  go_upto_region 1 with (fail)
  rw [← HXB.out]
  refine gen_w HS.out ?_
  clear HS HXB
  intro w1 S1
  obtain ⟨q0, q1, -⟩ := blk2 S1.p2.blk
  have HS := Lib.hid S1
  clear S1
  go_wp2_with fail
  refine (mewsref10_Rank.calls (l.length + 1) A c l x.f0 x.f1 (-1) w1 (Sat.row_C_at flatS rfl HS.out) HC.out HRK.out).mono ?_
  rintro en w2 ⟨rfl, hd⟩
  have HS2 := Lib.hid (HS.out.below hd)
  clear hd HS q0 q1
  obtain ⟨q0, q1, -⟩ := blk2 HS2.out.p2.blk
  go_wp2_with fail
  refine (mewsref10_Ahead.calls (l.length + 1) A c l x.f0 x.f1 (n : Nat) w2 (Sat.row_C_at flatS rfl HS2.out) HC.out HAH.out).mono ?_
  rintro en w3 ⟨rfl, hd⟩
  have HS3 := Lib.hid (HS2.out.below hd)
  clear hd HS2 q0 q1
  have hnb : (n : Int) ≤ 1000000 := by have := HNL.out; have := HB.out; omega
  have hto := sc_to (A := A) (n := l.length) (c := c) (i := n) HNL.out HC.out
  have hfr := sc_from (A := A) (n := l.length) (c := c) (i := n) HNL.out
  have T0 : Sat w0 w3 (rS (.slice none 0 0) [] * (rS (.slice A l.length c) l * (pts xb (scO x) * R))) := HS3.out.row_nil _ _
  obtain ⟨v1, w4, hr1, T1⟩ := sc_app (i := 0) (m := n) (A' := A) (c' := c) T0 (by have := HNL.out; omega) (by simp; have := HNL.out; have := HB.out; omega) (fun h => by
    obtain ⟨g, e⟩ := HA.out (by have := HNL.out; omega)
    exact ⟨g, e, by rw [e]⟩)
  have hl1 : ([] ++ (l.drop 0).take n : List Sc) = l.take n := by simp
  rw [hl1] at T1
  have T2 := T1.p3
  obtain ⟨q0, q1, -⟩ := blk2 T2.blk
  have HT1 := Lib.hid T1
  clear T0 T1 T2 hl1 HS3
  go_upto_region 5 with (at_builtin; refine wpList_append_eq rfl _ _ _ _ rfl rfl rfl hr1 ?_)
  clear hr1
  obtain ⟨A1, c1, hv1, -, -⟩ := Sat.row_C flatS rfl HT1.out
  subst hv1
  have T3 := HT1.out.alloc (.cells #[.string x.f0, .int .i64 x.f1] 30)
  obtain ⟨r0, r1, -⟩ := blk2 T3.blk
  obtain ⟨v2, w5, hr2, T4⟩ := Sat.rS_append (x := x) (by rw [List.length_take]; have := HB.out; omega) T3.p2 w4.heap.size 1 r0 r1
  have HT4 : Hid (Sat w0 w5 (rS v2 (l.take n ++ [x]) * (rS (.slice A l.length c) l * (pts xb (scO x) * R)))) := Lib.hid ((T4.p2.drop1))
  clear T3 T4 r0 r1 HT1
  go_upto_region 6 with (at_builtin; refine wpList_append_eq rfl _ _ _ _ rfl rfl rfl hr2 ?_)
  clear hr2 q0 q1
  obtain ⟨v3, w6, hr3, T5⟩ := sc_app (i := n) (m := l.length - n) (A' := fromS A c n) (c' := c - n) HT4.out (by have := HNL.out; omega) (by simp; have := HB.out; omega) (fromS_part HC.out HA.out)
  rw [HE.out] at T5
  have HT5 : Hid (Sat w0 w6 (rS v3 (insS l x) * R)) := Lib.hid (T5.p2.drop1.p2.drop1)
  clear T5 HT4
  go_wp2_with (at_builtin; refine wpList_append_eq rfl _ _ _ _ rfl rfl rfl hr3 ?_)
  go_ret2
  exact ⟨v3, rfl, HT5.out⟩
/-- 'C.Out'. -/
theorem rOut {w0 w : World} {v : Value} {l : List Sc} {m : ByteArray} {R : HP} (hb : l.length ≤ 1000000) (S : Sat w0 w (rS v l * R)) :
    Calls Try.prog 54 #[v, .string m] w fun en w' => ∃ u, en = .returned u ∧ Sat w0 w' (rS u (outS l m) * (rS v l * R)) := by
  obtain ⟨A, c, rfl, hc, hC⟩ := Sat.row_C flatS rfl S
  refine (mewsref19_Out.calls (l.length + 1) A c l m (outS l m) w hC hc (out_f m hb)).mono ?_
  rintro en w' ⟨u, rfl, hR, hB⟩
  exact ⟨u, rfl, S.rS_keep hB hR⟩
theorem outS_le (l : List Sc) (m : ByteArray) : (outS l m).length ≤ l.length := List.length_filter_le _ _
theorem cellsX2 {w0 w : World} {xb : Nat} {x : Sc} {A B R : HP} (S : Sat w0 w (A * (B * (pts xb (scO x) * R)))) : w.cell? ⟨xb, 0, none⟩ = some (.string x.f0) ∧ w.cell? ⟨xb, 1, none⟩ = some (.int .i64 x.f1) := by
  obtain ⟨a, b, _⟩ := blk2 S.p3.blk
  exact ⟨a, b⟩
theorem cellsX1 {w0 w : World} {xb : Nat} {x : Sc} {A R : HP} (S : Sat w0 w (A * (pts xb (scO x) * R))) : w.cell? ⟨xb, 0, none⟩ = some (.string x.f0) ∧ w.cell? ⟨xb, 1, none⟩ = some (.int .i64 x.f1) := by
  obtain ⟨a, b, _⟩ := blk2 S.p2.blk
  exact ⟨a, b⟩
set_option maxHeartbeats 8000000 in
/-- 'C.Score'. -/
theorem rScoreC {w0 w : World} {v : Value} {l : List Sc} {x : Sc} {R : HP} (hz : ZOk l) (hb : l.length < 1000000) (S : Sat w0 w (rS v l * R)) :
    Calls Try.prog 47 #[v, .agg #[.string x.f0, .int .i64 x.f1]] w fun en w' => ∃ u, en = .returned u ∧ Sat w0 w' (rS u (putS l x) * R) := by
  obtain ⟨xb, hxb⟩ : ∃ xb, xb = w.heap.size := ⟨_, rfl⟩
  have S0 := S.alloc (scO x)
  rw [← hxb] at S0
  have HS : Hid (Sat w0 _ (rS v l * (pts xb (scO x) * R))) := Lib.hid S0.p2
  have HXB := Lib.hid hxb
  have HB := Lib.hid hb
  have HZ := Lib.hid hz
  clear S S0 hxb hb hz
  go_enter Try.func47, Try.ntmps47
  go_upto_region 1 with (fail)
  rw [← HXB.out]
  refine gen_w HS.out ?_
  clear HS HXB
  intro w1 S1
  have HS := Lib.hid S1
  clear S1
  go_region_held3 (fun w' => w'.cell? ⟨xb, 0, none⟩ = some (.string x.f0) ∧ w'.cell? ⟨xb, 1, none⟩ = some (.int .i64 x.f1))
    (first | exact cellsX1 HS.out.drew | exact cellsX2 HSb.out | exact cellsX2 HSc.out)
    ((first
      | (go_at_call 54; refine (rOut (m := x.f0) (Nat.le_of_lt HB.out) HS.out.drew).mono ?_; rintro en w2 ⟨u, rfl, Sb⟩; have HSb := Lib.hid Sb; clear Sb)
      | (go_at_call 61; refine (rZPut (x := x) (out_ok HZ.out x.f0).ord (Nat.lt_of_le_of_lt (outS_le l x.f0) HB.out) (fun y hy => out_not y hy) HSb.out).mono ?_; rintro en w3 ⟨u2, rfl, Sc⟩; have HSc : Hid (Sat w0 w3 (rS u2 (putS l x) * (rS v l * (pts xb (scO x) * R)))) := Lib.hid Sc; clear Sc)))
  have HSd : Hid (Sat w0 w3 (rS u2 (putS l x) * R)) := Lib.hid (HSc.out.p2.drop1.p2.drop1)
  clear HSc HSb HS
  go_wp2_with fail
  go_ret
  exact ⟨_, rfl, HSd.out⟩
abbrev valV (k : Int) (z : Value) : Value := .agg #[.int .i64 k, .string ⟨#[]⟩, .slice none 0 0, .slice none 0 0, z]
abbrev valO (k : Int) (z : Value) : Obj := .cells #[.int .i64 k, .string ⟨#[]⟩, .slice none 0 0, .slice none 0 0, z] 45 (0, 0)
theorem vsize : (Try.prog.info? 45).map (·.size) = some 5 := by kernel_rfl
theorem val_set0 {k : Int} {z : Value} (k2 : Int) (z2 : Value) (t : TypeId) : (((((Array.setIfInBounds #[.int .i64 k, .string ⟨#[]⟩, .slice none 0 0, .slice none 0 0, z] 0 (.int .i64 k2)).setIfInBounds 1 (.string ⟨#[]⟩)).setIfInBounds 2 (.slice none 0 0)).setIfInBounds 3 (.slice none 0 0)).setIfInBounds 4 z2) = #[.int .i64 k2, .string ⟨#[]⟩, .slice none 0 0, .slice none 0 0, z2] := rfl
theorem Sat.val_put {w0 w : World} {rb : Nat} {k : Int} {z : Value} {R : HP} (S : Sat w0 w (pts rb (valO k z) * R)) (k2 : Int) (z2 : Value) :
    Sat w0 (((((w.setCell ⟨rb, 0, none⟩ (.int .i64 k2)).setCell ⟨rb, 1, none⟩ (.string ⟨#[]⟩)).setCell ⟨rb, 2, none⟩ (.slice none 0 0)).setCell ⟨rb, 3, none⟩ (.slice none 0 0)).setCell ⟨rb, 4, none⟩ z2) (pts rb (valO k2 z2) * R) :=
  ((((S.setCell (i := 0) (.int .i64 k2)).setCell (i := 1) (.string ⟨#[]⟩)).setCell (i := 2) (.slice none 0 0)).setCell (i := 3) (.slice none 0 0)).setCell (i := 4) z2
set_option maxHeartbeats 16000000 in
/-- 'C.ZSet', of a list that stays as it is. -/
theorem rZSet {w0 w : World} {A : Option Addr} {c : Nat} {l : List Sc} {R : HP} (hrd : ∀ (Z : HP) (w' : World), Sat w0 w' (Z * R) → Kd.C k30 w' A l.length l) (hs : ∀ x ∈ l, x.f0.size ≤ maxLen) (hb : l.length ≤ 100000) (S : Sat w0 w R) :
    Calls Try.prog 16 #[.slice A l.length c] w fun en w' => ∃ k z, en = .returned (valV k z) ∧ Sat w0 w' (rS z (putsS l) * R) := by
  obtain ⟨rb, hrb⟩ : ∃ rb, rb = w.heap.size := ⟨_, rfl⟩
  have S0 := S.alloc (valO 0 (.slice none 0 0))
  rw [← hrb] at S0
  have HS := Lib.hid S0
  have HRB := Lib.hid hrb
  have HRD := Lib.hid hrd
  have HSZ := Lib.hid hs
  have HB := Lib.hid hb
  have hbi : (l.length : Int) ≤ 100000 := by omega
  clear S S0 hrb hrd hs hb
  go_enter Try.func16, Try.ntmps16
  go_upto_region 1 with (fail)
  rw [← HRB.out]
  refine gen_w HS.out ?_
  clear HS HRB
  intro w1 S1
  have HS := Lib.hid S1
  clear S1
  by_cases h0 : l.length = 0
  · have h0d : ((l.length : Int) == 0) = true := by simp [h0]
    have HL0 := Lib.hid (List.eq_nil_of_length_eq_zero h0)
    obtain ⟨r0, r1, r2, r3, r4, rf⟩ := blk5 HS.out.blk
    clear h0
    go_wp2_with fail
    have S2 := HS.out.val_put 0 (.slice none 0 0)
    refine bodyPost_ret (results_cell_row rfl _ _ rb 45 _ (0, 0) _ rfl S2.blk Try.underlying45 rfl vsize) rfl ?_
    exact ⟨0, .slice none 0 0, rfl, by rw [HL0.out]; exact (S2.drop1).row_nil _ _⟩
  · have h0d : ((l.length : Int) == 0) = false := by rw [beq_eq_false_iff_ne]; omega
    clear h0
    obtain ⟨b, hb⟩ : ∃ b, b = w1.heap.size := ⟨_, rfl⟩
    have S2 := HS.out.alloc (valO 5 (.slice none 0 0))
    rw [← hb] at S2
    have HS2 : Hid (Sat w0 _ (pts b (valO 5 (.slice none 0 0)) * (rS (.slice none 0 0) (putsS (l.take 0)) * (pts rb (valO 0 (.slice none 0 0)) * R)))) := Lib.hid (Sat.p2 (S2.row_nil 30 2))
    have HBB := Lib.hid hb
    clear S2 hb HS
    go_upto_region 4 with (fail)
    rw [← HBB.out]
    refine gen_w HS2.out ?_
    clear HS2 HBB
    intro w2 S2
    have HS2 := Lib.hid S2
    clear S2
    go_wp2_with fail
    go_loopw [4] (fun v4 wr => ∃ (i : Nat) (z : Value), v4 = .int .i64 i ∧ i ≤ l.length ∧ Hid (Sat w0 wr (pts b (valO 5 z) * (rS z (putsS (l.take i)) * (pts rb (valO 0 (.slice none 0 0)) * R))))) (fun v4 _ => l.length - (RowKit.intOf v4).toNat)
    case atStart => exact ⟨0, _, rfl, by omega, HS2⟩
    case round =>
      clear HS2
      obtain ⟨i, z, rfl, hil, HSi⟩ := hrel
      by_cases hlt : i < l.length
      · have hlti : (i : Int) < (l.length : Int) := by omega
        obtain ⟨hz, hzl⟩ := puts_ok HSZ.out HB.out i (by omega)
        have HX : Hid (putsS (l.take (i + 1)) = putS (putsS (l.take i)) l[i]) := Lib.hid (puts_take l hlt)
        obtain ⟨cur, hcur⟩ : ∃ cur, cur = putsS (l.take i) := ⟨_, rfl⟩
        rw [← hcur] at HSi HX hz hzl
        have HZ := Lib.hid hz
        have HZL := Lib.hid hzl
        have hC := HRD.out _ _ (HSi.out.cong (B := (pts b (valO 5 z) * (rS z cur * pts rb (valO 0 (.slice none 0 0)))) * R) (by ac_rfl))
        obtain ⟨ad, e1, hx0, hx1⟩ := argZ hC (Below.refl _ _) hlt
        subst e1
        obtain ⟨x, hx⟩ : ∃ x, x = l[i] := ⟨_, rfl⟩
        rw [← hx] at hx0 hx1 HX
        obtain ⟨v0, v1, v2, v3, v4, vf⟩ := blk5 HSi.out.blk
        obtain ⟨A2, c2, rfl, -, -⟩ := Sat.row_C flatS rfl HSi.out.p2
        clear hC hcur hz hzl hx
        have HSp : Hid (Sat w0 wr.drew (rS (.slice A2 cur.length c2) cur * (pts b (valO 5 (.slice A2 cur.length c2)) * (pts rb (valO 0 (.slice none 0 0)) * R)))) := Lib.hid HSi.out.drew.p2
        have hcb : cur.length < 1000000 := by have := HZL.out; omega
        have HCB := Lib.hid hcb
        clear hcb HSi
        go_wp2_with fail
        go_region_with (go_at_call 47; refine (rScoreC (x := x) HZ.out HCB.out HSp.out).mono ?_; rintro en w3 ⟨u, rfl, S3⟩; obtain ⟨A3, c3, rfl, -, -⟩ := Sat.row_C flatS rfl S3; obtain ⟨d0, d1, d2, d3, d4, df⟩ := blk5 S3.p2.blk; have HS3 := Lib.hid S3; clear S3)
        all_goals
          obtain ⟨u, hu⟩ : ∃ u, u = Value.slice A3 (putS cur x).length c3 := ⟨_, rfl⟩
          rw [← hu] at HS3 ⊢
          clear hu
          have S4 := HS3.out.p2.setCell (i := 4) u
          have HS4 : Hid (Sat w0 (w3.setCell ⟨b, 4, none⟩ u) (pts b (valO 5 u) * (rS u (putS cur x) * (pts rb (valO 0 (.slice none 0 0)) * R)))) := Lib.hid S4
          clear S4 HS3 HSp d0 d1 d2 d3 d4 df v0 v1 v2 v3 v4 vf hx0 hx1
          refine gen_w HS4.out ?_
          clear HS4
          intro w5 S5
          have HS5 := Lib.hid S5
          clear S5
          go_wp2_with fail
          go_roundw
          case rel => exact ⟨i + 1, u, by simp, by omega, by rw [HX.out]; exact HS5⟩
          case measure => simp [RowKit.intOf]; omega
      · have hi2 : i = l.length := by omega
        have HIE : Hid (l.take i = l) := Lib.hid (by rw [hi2, List.take_of_length_le (Nat.le_refl _)])
        rw [HIE.out] at HSi
        obtain ⟨v0, v1, v2, v3, v4, vf⟩ := blk5 HSi.out.blk
        obtain ⟨r0, r1, r2, r3, r4, rf⟩ := blk5 HSi.out.p3.blk
        obtain ⟨A2, c2, rfl, -, -⟩ := Sat.row_C flatS rfl HSi.out.p2
        go_wp2_with fail
        have S2 := HSi.out.p3.val_put 5 (.slice A2 (putsS l).length c2)
        refine bodyPost_ret (results_cell_row rfl _ _ rb 45 _ (0, 0) _ rfl S2.blk Try.underlying45 rfl vsize) rfl ?_
        exact ⟨5, _, rfl, S2.drop1.drop1⟩
end Go.Sl
