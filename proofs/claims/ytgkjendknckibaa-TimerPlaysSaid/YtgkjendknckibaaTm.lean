/-
  The contracts of package timer's functions: New, Len, ahead, swap.
-/
import Derived.Test.YtgkjendknckibaaProg
import Derived.Test.YtgkjendknckibaaMe
import Derived.Test.YtgkjendknckibaaRing
import Derived.Test.YtgkjendknckibaaRw
import Derived.Test.YtgkjendknckibaaPTimx1
import Derived.Test.YtgkjendknckibaaPTimx2
import Derived.BigRegion
import Derived.KernelRfl
import Derived.Lib.Hide
import Derived.Deep.RegionHeld3
import Derived.Deep.DrawnRows
namespace Go.Sl
open Go.RowKit Go.Proofs Go.Proofs.YtgkjendknckibaaW.PrintWords Go.Proofs.Ytgkjendknckibaa.PTim
set_option linter.unusedVariables false
set_option linter.unusedSimpArgs false
set_option maxRecDepth 100000

abbrev Tm := S36
instance : Inhabited Tm := ⟨z36⟩
def encT (x : Tm) : List Value := [.string x.f0, .int .i64 x.f1]
theorem flatT : Flat k36 encT where
  len _ := rfl
  K w x := ⟨[.string x.f0], [.int .i64 x.f1], rfl, rfl, rfl⟩
  M w base ok x := ⟨[.string x.f0], [.int .i64 x.f1], rfl, rfl, rfl⟩
  pos := by decide
/-- Where each key lies. -/
def liesFrom : Nat → List Tm → List (ByteArray × Value)
  | _, [] => []
  | i, x :: hs => (x.f0, .int .i64 i) :: liesFrom (i + 1) hs
def lies (hs : List Tm) : List (ByteArray × Value) := liesFrom 0 hs
theorem liesFrom_fst : ∀ (hs : List Tm) (i : Nat), (liesFrom i hs).map (·.1) = hs.map (·.f0)
  | [], _ => rfl
  | x :: hs, i => by rw [liesFrom, List.map_cons, List.map_cons, liesFrom_fst hs]
theorem lies_fst (hs : List Tm) : (lies hs).map (·.1) = hs.map (·.f0) := liesFrom_fst hs 0
theorem mem_liesFrom : ∀ (hs : List Tm) (i : Nat) (p : ByteArray × Value), p ∈ liesFrom i hs ↔ ∃ j, ∃ h : j < hs.length, p = (hs[j].f0, .int .i64 ((i + j : Nat) : Int))
  | [], i, p => by simp [liesFrom]
  | x :: hs, i, p => by
    rw [liesFrom, List.mem_cons, mem_liesFrom hs (i + 1) p]
    constructor
    · rintro (rfl | ⟨j, h, rfl⟩)
      · exact ⟨0, by simp, by simp⟩
      · exact ⟨j + 1, by simpa using h, by simp only [List.getElem_cons_succ]; rw [show i + (j + 1) = i + 1 + j from by omega]⟩
    · rintro ⟨j, h, rfl⟩
      cases j with
      | zero => left; simp
      | succ j => right; exact ⟨j, by simpa using h, by simp only [List.getElem_cons_succ]; rw [show i + (j + 1) = i + 1 + j from by omega]⟩
theorem mem_lies {hs : List Tm} {p : ByteArray × Value} : p ∈ lies hs ↔ ∃ j, ∃ h : j < hs.length, p = (hs[j].f0, .int .i64 (j : Int)) := by
  unfold lies
  rw [mem_liesFrom]
  constructor <;>
  · rintro ⟨j, h, rfl⟩
    exact ⟨j, h, by simp⟩
structure TOk (hs : List Tm) : Prop where
  ks : (hs.map (·.f0)).Nodup
  len : hs.length ≤ 1000000
theorem lies_lk {hs : List Tm} (ho : TOk hs) {i : Nat} (h : i < hs.length) : lk (lies hs) hs[i].f0 = some (.int .i64 i) :=
  lk_some (by rw [lies_fst]; exact ho.ks) (mem_lies.2 ⟨i, h, rfl⟩)
theorem TOk.inj {hs : List Tm} (ho : TOk hs) {i j : Nat} (hi : i < hs.length) (hj : j < hs.length) (h : hs[i].f0 = hs[j].f0) : i = j :=
  (List.getElem_inj (xs := hs.map (·.f0)) (h₀ := by simpa using hi) (h₁ := by simpa using hj) ho.ks).1 (by simpa using h)
/-- The timer at o. -/
def tmr (o : Nat) (hs : List Tm) : HP :=
  ex fun q : Value × Nat => wh (TOk hs) (pts o (.cells #[q.1, .map (some q.2)] 53 (0, 0)) * (row 36 2 q.1 hs.length (hs.flatMap encT) * gmap Value.string q.2 (lies hs)))
section
variable {w0 w : World} {o : Nat} {hs : List Tm} {R : HP}
theorem Sat.tm_open (S : Sat w0 w (tmr o hs * R)) : ∃ v mb, TOk hs ∧ Sat w0 w (pts o (.cells #[v, .map (some mb)] 53 (0, 0)) * (row 36 2 v hs.length (hs.flatMap encT) * (gmap Value.string mb (lies hs) * R))) := by
  obtain ⟨q, S⟩ := S.ex1
  obtain ⟨h, S⟩ := S.wh1
  exact ⟨q.1, q.2, h, S.cong (by ac_rfl)⟩
theorem Sat.tm_shut {v : Value} {mb : Nat} (h : TOk hs) (S : Sat w0 w (pts o (.cells #[v, .map (some mb)] 53 (0, 0)) * (row 36 2 v hs.length (hs.flatMap encT) * (gmap Value.string mb (lies hs) * R)))) : Sat w0 w (tmr o hs * R) := by
  unfold tmr
  exact Sat.mk_ex1 (v, mb) (Sat.mk_wh1 h (S.cong (by ac_rfl)))
end
theorem tkm : Try.prog.underlying 51 = some (.map 9 3) := Try.underlying51
theorem tks' : Try.prog.underlying 9 = some .string := Try.underlying9
theorem tzero (w : World) : (zeroValue 3).run Try.prog w = .ok (.int .i64 0) w := by kernel_rfl
/-- Ahead: earlier; or at one time, of the lesser key. -/
def ltT (a b : Tm) : Bool := decide (a.f1 < b.f1) || (a.f1 == b.f1 && Op.bytesLess a.f0.toList b.f0.toList)
/-- The cells of an element of a row. -/
theorem Sat.row_two {w0 w : World} {A : Option Addr} {m c : Nat} {hs : List Tm} {R : HP} (S : Sat w0 w (row 36 2 (.slice A m c) hs.length (hs.flatMap encT) * R)) {i : Nat} (h : i < hs.length) :
    ∃ g, A = some ⟨g, 0, none⟩ ∧ w.cell? ⟨g, i * 2, none⟩ = some (.string hs[i].f0) ∧ w.cell? ⟨g, i * 2 + 1, none⟩ = some (.int .i64 hs[i].f1) := by
  have hc0 := flat_cell flatT (xs := hs) (j := i) (i := 0) (List.getElem?_eq_getElem h) (by rfl : (encT hs[i])[0]? = some (.string hs[i].f0))
  have hc1 := flat_cell flatT (xs := hs) (j := i) (i := 1) (List.getElem?_eq_getElem h) (by rfl : (encT hs[i])[1]? = some (.int .i64 hs[i].f1))
  obtain ⟨g, e1, h0⟩ := S.row_cells _ _ hc0
  obtain ⟨g', e2, h1⟩ := S.row_cells _ _ hc1
  subst e1
  injection e2 with e2; injection e2 with e2
  subst e2
  exact ⟨g, rfl, h0, h1⟩
set_option maxHeartbeats 4000000 in
/-- 'ahead'. -/
theorem tmAhead {w0 w : World} {o i k : Nat} {hs : List Tm} {R : HP} (hi : i < hs.length) (hk : k < hs.length) (S : Sat w0 w (tmr o hs * R)) :
    Calls Try.prog 57 #[pt o, .int .i64 i, .int .i64 k] w fun en w' => en = .returned (.bool (ltT hs[i] hs[k])) ∧ Sat w0 w' (tmr o hs * R) := by
  have HS := Lib.hid S
  obtain ⟨v, mb, hok, S1⟩ := S.tm_open
  obtain ⟨g, cap, rfl⟩ : ∃ g cap, v = .slice (some ⟨g, 0, none⟩) hs.length cap := by
    obtain ⟨_, h⟩ := S1.p2.row_open
    rcases h with ⟨_, h0, _⟩ | ⟨g, cap, cur, rfl, _⟩
    · omega
    · exact ⟨_, _, rfl⟩
  obtain ⟨c0, c1, f0⟩ := blk2 S1.blk
  obtain ⟨g1, e1, x0, x1⟩ := S1.p2.row_two hi
  cases e1
  obtain ⟨g1, e1, y0, y1⟩ := S1.p2.row_two hk
  cases e1
  have hlen := hok.len
  have hi' : (i : Int) < hs.length := by omega
  have hk' : (k : Int) < hs.length := by omega
  have n0 := World.new_ne w _ c0
  have n1 := World.new_ne w _ x0
  clear S S1 hok
  go_enter Try.func57, Try.ntmps57
  go_wp2_with fail
  go_region_held3 (fun w' => w'.cell? ⟨o, 0, none⟩ = some (.slice (some ⟨g, 0, none⟩) hs.length cap) ∧ w'.cell? ⟨g, i * 2, none⟩ = some (.string hs[i].f0) ∧ w'.cell? ⟨g, i * 2 + 1, none⟩ = some (.int .i64 hs[i].f1) ∧ w'.cell? ⟨g, k * 2, none⟩ = some (.string hs[k].f0) ∧ w'.cell? ⟨g, k * 2 + 1, none⟩ = some (.int .i64 hs[k].f1))
    (go_keep) (fail)
  all_goals
    clear c0 x0 x1 y0 y1 n0 n1
    go_wp2_with fail
  all_goals
    go_ret
    refine ⟨?_, (((HS.out.alloc _).alloc _).drop1.drop1).drew⟩
    unfold ltT
    simp_all

/-! ### a row's element is written -/
theorem flat_set : ∀ (hs : List Tm) (i : Nat) (y : Tm), i < hs.length → (hs.set i y).flatMap encT = ((hs.flatMap encT).set (i * 2) (.string y.f0)).set (i * 2 + 1) (.int .i64 y.f1)
  | [], i, y, h => by simp at h
  | x :: hs, 0, y, _ => rfl
  | x :: hs, i + 1, y, h => by
    rw [List.set_cons_succ, List.flatMap_cons, flat_set hs i y (by simpa using h), List.flatMap_cons]
    rw [show (i + 1) * 2 = i * 2 + 1 + 1 from by omega]
    simp [encT]
theorem flat_set1 (hs : List Tm) (i : Nat) (t : Int) (h : i < hs.length) : (hs.set i ⟨hs[i].f0, t⟩).flatMap encT = (hs.flatMap encT).set (i * 2 + 1) (.int .i64 t) := by
  rw [flat_set hs i _ h]
  congr 1
  refine List.ext_getElem? fun j => ?_
  rw [List.getElem?_set]
  by_cases e : i * 2 = j
  · subst e
    rw [if_pos rfl]
    have hc := flat_cell flatT (xs := hs) (j := i) (i := 0) (List.getElem?_eq_getElem h) (by rfl : (encT hs[i])[0]? = some (.string hs[i].f0))
    have hc' : (hs.flatMap encT)[i * 2]? = some (.string hs[i].f0) := hc
    rw [hc', if_pos (List.getElem?_eq_some_iff.1 hc').1]
  · rw [if_neg e]
theorem Sat.row_setc {w0 w : World} {e g n cap j : Nat} {xs : List Value} {R : HP} (S : Sat w0 w (row e 2 (.slice (some ⟨g, 0, none⟩) n cap) n xs * R)) (u : Value) :
    Sat w0 (w.setCell ⟨g, j, none⟩ u) (row e 2 (.slice (some ⟨g, 0, none⟩) n cap) n (xs.set j u) * R) := by
  obtain ⟨hl, h⟩ := S.row_open
  rcases h with ⟨h0, _⟩ | ⟨g2, cap2, cur, hv, hn, hm, hs, ht, S1⟩
  · cases h0
  · injection hv with hv h2 h3
    injection hv with hv
    injection hv with hv
    subst hv h3
    refine Sat.row_shut (by simpa using hl) hn hm (by simpa using hs) ?_ (S1.setCell (i := j) u)
    rw [Array.toList_setIfInBounds, ← ht]
    refine List.ext_getElem? fun i => ?_
    by_cases hi : i < n * 2
    · rw [List.getElem?_take_of_lt hi, List.getElem?_set, List.getElem?_set, List.getElem?_take_of_lt hi]
      by_cases e : j = i
      · subst e
        have : j < cur.size := by rw [hs]; exact Nat.lt_of_lt_of_le hi (Nat.mul_le_mul_right 2 hn)
        rw [if_pos rfl, if_pos rfl, if_pos (by simpa using this), if_pos (by simp; omega)]
      · rw [if_neg e, if_neg e]
    · rw [List.getElem?_eq_none (by simp; omega), List.getElem?_eq_none (by simp; omega)]
theorem Sat.row_put {w0 w : World} {g cap i : Nat} {hs : List Tm} {R : HP} (S : Sat w0 w (row 36 2 (.slice (some ⟨g, 0, none⟩) hs.length cap) hs.length (hs.flatMap encT) * R)) (h : i < hs.length) (y : Tm) :
    Sat w0 ((w.setCell ⟨g, i * 2, none⟩ (.string y.f0)).setCell ⟨g, i * 2 + 1, none⟩ (.int .i64 y.f1)) (row 36 2 (.slice (some ⟨g, 0, none⟩) (hs.set i y).length cap) (hs.set i y).length ((hs.set i y).flatMap encT) * R) := by
  rw [List.length_set, flat_set hs i y h]
  exact (S.row_setc _).row_setc _
theorem Sat.row_frz {w0 w : World} {e sz n m c : Nat} {A : Option Addr} {xs : List Value} {R : HP} (S : Sat w0 w (row e sz (.slice A m c) n xs * R)) : ∀ g, A = some ⟨g, 0, none⟩ → ∀ i, w.frozen? ⟨g, i, none⟩ = false := by
  intro g hg i
  subst hg
  obtain ⟨_, h⟩ := S.row_open
  rcases h with ⟨h0, _⟩ | ⟨g2, cap2, cur, hv, _, _, _, _, S1⟩
  · cases h0
  · injection hv with hv
    injection hv with hv
    injection hv with hv
    subst hv; exact frz_of S1.blk i
/-- Two places changed about. -/
def sw (hs : List Tm) (i k : Nat) : List Tm := (hs.set i (hs.getD k default)).set k (hs.getD i default)
theorem sw_length (hs : List Tm) (i k : Nat) : (sw hs i k).length = hs.length := by simp [sw]
theorem getD_at {hs : List Tm} {i : Nat} (h : i < hs.length) : hs.getD i default = hs[i] := by simp [List.getD_eq_getElem?_getD, h]
theorem sw_at {hs : List Tm} {i k j : Nat} (hi : i < hs.length) (hk : k < hs.length) (hj : j < (sw hs i k).length) : (sw hs i k)[j] = if j = k then hs[i] else if j = i then hs[k] else hs[j]'(by rw [sw_length] at hj; exact hj) := by
  unfold sw
  simp only [getD_at hi, getD_at hk, List.getElem_set, eq_comm (a := k) (b := j), eq_comm (a := i) (b := j)]
theorem sw_perm {hs : List Tm} {i k : Nat} (hi : i < hs.length) (hk : k < hs.length) : (sw hs i k).Perm hs := by
  by_cases e : i = k
  · subst e
    unfold sw
    rw [List.set_set, getD_at hi, List.set_getElem_self]
  · unfold sw
    rw [getD_at hi, getD_at hk]
    exact List.set_set_perm hi hk
theorem TOk.perm {hs hs' : List Tm} (ho : TOk hs) (h : hs'.Perm hs) : TOk hs' where
  ks := (h.map _).nodup_iff.2 ho.ks
  len := by rw [h.length_eq]; exact ho.len
theorem mem_ins {l : List (ByteArray × Value)} {k : ByteArray} {v : Value} {p : ByteArray × Value} : p ∈ ins l k v ↔ p = (k, v) ∨ (p ∈ l ∧ p.1 ≠ k) := by
  unfold ins era
  simp [List.mem_filter]
theorem nodup_of_fst {l : List (ByteArray × Value)} (h : (l.map (·.1)).Nodup) : l.Nodup := by
  rw [List.Nodup, List.pairwise_map] at h
  exact h.imp fun h e => h (by rw [e])
theorem ins_nodup {l : List (ByteArray × Value)} {k : ByteArray} {v : Value} (h : (l.map (·.1)).Nodup) : ((ins l k v).map (·.1)).Nodup := by
  unfold ins era
  rw [List.map_cons, List.nodup_cons]
  refine ⟨fun hm => ?_, h.sublist (List.filter_sublist.map _)⟩
  obtain ⟨p, hp, e⟩ := List.mem_map.1 hm
  have := (List.mem_filter.1 hp).2
  simp only [Bool.not_eq_true', decide_eq_false_iff_not] at this
  exact this e
/-- The places' map behind an exchange. -/
theorem lies_sw {hs : List Tm} (ho : TOk hs) {i k : Nat} (hi : i < hs.length) (hk : k < hs.length) : (ins (ins (lies hs) hs[k].f0 (.int .i64 i)) hs[i].f0 (.int .i64 k)).Perm (lies (sw hs i k)) := by
  have ho' := ho.perm (sw_perm hi hk)
  have n1 : ((lies hs).map (·.1)).Nodup := by rw [lies_fst]; exact ho.ks
  have n2 : ((lies (sw hs i k)).map (·.1)).Nodup := by rw [lies_fst]; exact ho'.ks
  refine (List.perm_ext_iff_of_nodup (nodup_of_fst (ins_nodup (ins_nodup n1))) (nodup_of_fst n2)).2 fun p => ?_
  rw [mem_ins, mem_ins, mem_lies, mem_lies]
  constructor
  · rintro (rfl | ⟨rfl | ⟨⟨j, hj, rfl⟩, h1⟩, h2⟩)
    · exact ⟨k, by rw [sw_length]; exact hk, by rw [sw_at hi hk, if_pos rfl]⟩
    · refine ⟨i, by rw [sw_length]; exact hi, ?_⟩
      rw [sw_at hi hk]
      by_cases e : i = k
      · subst e; exact absurd rfl h2
      · rw [if_neg e, if_pos rfl]
    · refine ⟨j, by rw [sw_length]; exact hj, ?_⟩
      rw [sw_at hi hk, if_neg (fun e => h1 (by subst e; rfl)), if_neg (fun e => h2 (by subst e; rfl))]
  · rintro ⟨j, hj, rfl⟩
    have hj' : j < hs.length := by rw [sw_length] at hj; exact hj
    rw [sw_at hi hk]
    by_cases e : j = k
    · subst e; left; rw [if_pos rfl]
    · rw [if_neg e]
      by_cases e2 : j = i
      · subst e2
        right
        rw [if_pos rfl]
        exact ⟨.inl rfl, fun h => e (ho.inj hk hj' h).symm⟩
      · rw [if_neg e2]
        right
        exact ⟨.inr ⟨⟨j, hj', rfl⟩, fun h => e (ho.inj hj' hk h)⟩, fun h => e2 (ho.inj hj' hi h)⟩
end Go.Sl
