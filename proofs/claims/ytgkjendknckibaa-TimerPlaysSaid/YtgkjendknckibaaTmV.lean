/-
  The contracts of package timer's functions: New, Len, At, First, Set, Drop.
-/
import Derived.Test.YtgkjendknckibaaTmU
import Derived.WalkSpells
import Derived.Deep.Cut
namespace Go.Sl
open Go.RowKit Go.Proofs Go.Proofs.YtgkjendknckibaaW.PrintWords Go.Proofs.Ytgkjendknckibaa.PTim
set_option linter.unusedVariables false
set_option linter.unusedSimpArgs false
set_option maxRecDepth 100000

def findT (hs : List Tm) (key : ByteArray) : Option Tm := hs.find? fun x => decide (x.f0 = key)
def lessT (hs : List Tm) (key : ByteArray) : List Tm := hs.filter fun x => !decide (x.f0 = key)
theorem findT_some {hs : List Tm} {key : ByteArray} {x : Tm} (h : findT hs key = some x) : x ∈ hs ∧ x.f0 = key := ⟨List.mem_of_find?_eq_some h, by simpa using List.find?_some h⟩
theorem findT_none {hs : List Tm} {key : ByteArray} (h : findT hs key = none) : key ∉ hs.map (·.f0) := fun hm => by
  obtain ⟨x, hx, e⟩ := List.mem_map.1 hm
  have := List.find?_eq_none.1 h x hx
  simp only [decide_eq_true_eq] at this
  exact this e
theorem lies_none {hs : List Tm} {key : ByteArray} (h : findT hs key = none) : lk (lies hs) key = none := lk_none fun p hp e => by
  obtain ⟨j, hj, rfl⟩ := mem_lies.1 hp
  exact findT_none h (List.mem_map.2 ⟨hs[j], List.getElem_mem hj, e⟩)
theorem findT_at {hs : List Tm} {key : ByteArray} {x : Tm} (h : findT hs key = some x) : ∃ i, ∃ hi : i < hs.length, hs[i] = x ∧ x.f0 = key := by
  obtain ⟨hm, hk⟩ := findT_some h
  obtain ⟨i, hi, rfl⟩ := List.getElem_of_mem hm
  exact ⟨i, hi, rfl, hk⟩
/-- The timer's slice, written out. -/
theorem Sat.tm_slice {w0 w : World} {o : Nat} {hs : List Tm} {R : HP} (S : Sat w0 w (tmr o hs * R)) : ∃ A cap mb, TOk hs ∧ (0 < hs.length → ∃ g, A = some ⟨g, 0, none⟩) ∧
    Sat w0 w (pts o (.cells #[.slice A hs.length cap, .map (some mb)] 53 (0, 0)) * (row 36 2 (.slice A hs.length cap) hs.length (hs.flatMap encT) * (gmap Value.string mb (lies hs) * R))) := by
  obtain ⟨v, mb, hok, S1⟩ := S.tm_open
  obtain ⟨_, h⟩ := S1.p2.row_open
  rcases h with ⟨rfl, h0, _⟩ | ⟨g, cap, cur, rfl, _⟩
  · exact ⟨none, 0, mb, hok, fun h => by omega, by rw [h0] at S1 ⊢; exact S1⟩
  · exact ⟨_, cap, mb, hok, fun _ => ⟨g, rfl⟩, S1⟩
theorem teql (r : Option Nat) (w : World) : (binOp .eql 51 (.map r) (.map none)).run Try.prog w = .ok (.bool r.isNone) w := run_eql_map_nil w _ _ _ r tkm
/-- 'New()'. -/
theorem tmNew {w0 w : World} {R : HP} (S : Sat w0 w R) : Calls Try.prog 13 #[] w fun en w' => ∃ o, en = .returned (pt o) ∧ Sat w0 w' (tmr o [] * R) := by
  go_enter Try.func13, Try.ntmps13
  have hmm := @run_makeMap Try.prog
  go_wp2
  go_ret
  refine ⟨_, rfl, ?_⟩
  have S1 := ((S.gmap_made (κ := ByteArray) (kv := Value.string)).row_nil 36 2).alloc (.cells #[.slice none 0 0, .map (some w.heap.size)] 53)
  simp only [World.size_alloc] at S1
  exact Sat.tm_shut (hs := []) (v := .slice none 0 0) (mb := w.heap.size) ⟨by simp, by simp⟩ S1
/-- 'Len'. -/
theorem tmLen_nil (w : World) : Calls Try.prog 17 #[.pointer none] w fun en w' => en = .returned (.int .i64 0) ∧ w' = w := by
  go_enter Try.func17, Try.ntmps17
  go_wp2_with fail
  go_ret
  exact ⟨rfl, rfl⟩
theorem tmLen {w0 w : World} {o : Nat} {hs : List Tm} {R : HP} (S : Sat w0 w (tmr o hs * R)) :
    Calls Try.prog 17 #[pt o] w fun en w' => en = .returned (.int .i64 hs.length) ∧ w' = w := by
  obtain ⟨A, cap, mb, hok, -, S1⟩ := S.tm_slice
  obtain ⟨c0, c1, -⟩ := blk2 S1.blk
  clear S S1 hok
  go_enter Try.func17, Try.ntmps17
  go_wp2_with fail
  go_ret
  exact ⟨rfl, rfl⟩
/-- 'At'. -/
theorem tmAt_nil (key : ByteArray) (w : World) : Calls Try.prog 19 #[.pointer none, .string key] w fun en w' => en = .returned (.tuple #[.int .i64 0, .bool false]) ∧ w' = w := by
  go_enter Try.func19, Try.ntmps19
  go_wp2_with fail
  go_ret2
  exact ⟨rfl, rfl⟩
theorem tmAt {w0 w : World} {o : Nat} {hs : List Tm} {key : ByteArray} {R : HP} (S : Sat w0 w (tmr o hs * R)) :
    Calls Try.prog 19 #[pt o, .string key] w fun en w' => en = .returned (.tuple #[.int .i64 (((findT hs key).map (·.f1)).getD 0), .bool (findT hs key).isSome]) ∧ w' = w := by
  obtain ⟨A, cap, mb, hok, hA, S1⟩ := S.tm_slice
  obtain ⟨c0, c1, -⟩ := blk2 S1.blk
  have hl := S1.p3.run_lookup keys_string tkm tks' tzero true key
  cases hf : findT hs key with
  | none =>
    rw [lies_none hf] at hl
    clear S S1 hok hf hA
    go_enter Try.func19, Try.ntmps19
    go_wp2_with fail
    go_ret2
    exact ⟨rfl, rfl⟩
  | some x =>
    obtain ⟨i, hi, rfl, hk⟩ := findT_at hf
    subst hk
    rw [lies_lk hok hi] at hl
    obtain ⟨g, e1, x0, x1⟩ := S1.p2.row_two hi
    subst e1
    have hi' : (i : Int) < hs.length := by omega
    have hlen := hok.len
    simp only [Option.map_some, Option.getD_some, Option.isSome_some]
    generalize hs[i].f0 = kk at *
    generalize hs[i].f1 = tt at *
    clear S S1 hok hf hA
    go_enter Try.func19, Try.ntmps19
    go_wp2_with fail
    go_ret2
    exact ⟨rfl, rfl⟩
theorem tmsize : (Try.prog.info? 36).map (·.size) = some 2 := by kernel_rfl
/-- 'First'. -/
theorem tmFirst_nil {w0 w : World} {R : HP} (S : Sat w0 w R) : Calls Try.prog 18 #[.pointer none] w fun en w' => en = .returned (.tuple #[.agg #[.string ⟨#[]⟩, .int .i64 0], .bool false]) ∧ Sat w0 w' R := by
  have S2 := S.alloc (.cells #[.string ⟨#[]⟩, .int .i64 0] 36)
  have c0 := (blk2 S2.blk).1
  have HS := Lib.hid S2
  clear S S2
  go_enter Try.func18, Try.ntmps18
  go_wp2_with fail
  refine (tmLen_nil _).mono ?_
  rintro en w1 ⟨rfl, rfl⟩
  go_wp2_with fail
  refine bodyPost_ret (results_ct rfl _ _ w.heap.size 36 _ (0, 0) _ rfl HS.out.blk Try.underlying36 rfl tmsize) rfl ?_
  exact ⟨rfl, HS.out.drop1⟩
def firstV (hs : List Tm) : Value := .tuple #[.agg #[.string (ga hs 0).f0, .int .i64 (ga hs 0).f1], .bool (!hs.isEmpty)]
theorem tmFirst {w0 w : World} {o : Nat} {hs : List Tm} {R : HP} (S : Sat w0 w (tmr o hs * R)) : Calls Try.prog 18 #[pt o] w fun en w' => en = .returned (firstV hs) ∧ Sat w0 w' (tmr o hs * R) := by
  have S2 := S.alloc (.cells #[.string ⟨#[]⟩, .int .i64 0] 36)
  have HS2 := Lib.hid S2
  have HS := Lib.hid S2.drop1
  cases hs with
  | nil =>
    have c0 := (blk2 S2.blk).1
    rw [show firstV [] = .tuple #[.agg #[.string ⟨#[]⟩, .int .i64 0], .bool false] from rfl]
    clear S S2
    go_enter Try.func18, Try.ntmps18
    go_wp2_with fail
    refine (tmLen HS.out).mono ?_
    rintro en w1 ⟨rfl, rfl⟩
    go_wp2_with fail
    refine bodyPost_ret (results_ct rfl _ _ w.heap.size 36 _ (0, 0) _ rfl HS2.out.blk Try.underlying36 rfl tmsize) rfl ?_
    exact ⟨rfl, HS.out⟩
  | cons x t =>
    obtain ⟨A, cap, mb, hok, hA, S1⟩ := S2.p2.tm_slice
    obtain ⟨g, rfl⟩ := hA (by simp)
    obtain ⟨c0, c1, -⟩ := blk2 S1.blk
    obtain ⟨g1, e1, x0, x1⟩ := S1.p2.row_two (i := 0) (by simp)
    cases e1
    have y0 := (blk2 S2.blk).1
    have hlen := hok.len
    obtain ⟨N, hN⟩ : ∃ N, N = (x :: t).length := ⟨_, rfl⟩
    have hN1 : 0 < N := by rw [hN]; simp
    rw [← hN] at c0 hlen
    have HN := Lib.hid hN
    have HB := Lib.hid (S.alloc (.cells #[.string x.f0, .int .i64 x.f1] 36))
    rw [show firstV (x :: t) = .tuple #[.agg #[.string x.f0, .int .i64 x.f1], .bool true] from rfl]
    rw [show (x :: t)[0] = x from rfl] at x0 x1
    clear S S1 S2 hok hA hN
    go_enter Try.func18, Try.ntmps18
    go_wp2_with fail
    refine (tmLen HS.out).mono ?_
    rintro en w1 ⟨rfl, rfl⟩
    rw [← HN.out]
    go_wp2_with fail
    refine bodyPost_ret (results_ct rfl _ _ w.heap.size 36 _ (0, 0) _ rfl HB.out.blk Try.underlying36 rfl tmsize) rfl ?_
    exact ⟨rfl, HB.out.drop1⟩

/-! ### Set, Drop -/
theorem liesFrom_set : ∀ (hs : List Tm) (n i : Nat) (t : Int) (h : i < hs.length), liesFrom n (hs.set i ⟨hs[i].f0, t⟩) = liesFrom n hs
  | [], n, i, t, h => by simp at h
  | x :: hs, n, 0, t, _ => rfl
  | x :: hs, n, i + 1, t, h => by
    rw [List.set_cons_succ, liesFrom, liesFrom]
    simp only [List.getElem_cons_succ]
    rw [liesFrom_set hs (n + 1) i t (by simpa using h)]
theorem lies_set (hs : List Tm) (i : Nat) (t : Int) (h : i < hs.length) : lies (hs.set i ⟨hs[i].f0, t⟩) = lies hs := liesFrom_set hs 0 i t h
theorem ga_set {hs : List Tm} {i : Nat} (h : i < hs.length) (y : Tm) (j : Nat) : ga (hs.set i y) j = if j = i then y else ga hs j := by
  unfold ga
  simp only [List.getD_eq_getElem?_getD, List.getElem?_set]
  by_cases e : i = j
  · subst e; simp [h]
  · rw [if_neg (show ¬ j = i from fun h => e h.symm)]; simp [e]
theorem Heap.set {hs : List Tm} (h : Heap hs) {i : Nat} (hi : i < hs.length) (y : Tm) : HB (hs.set i y) i := by
  have hb := h.but i
  constructor
  · intro j hj h0 e1 e2
    rw [List.length_set] at hj
    rw [ga_set hi, ga_set hi, if_neg e1, if_neg e2]
    exact hb.off j hj h0 e1 e2
  · intro c hc h0 hp hi0
    rw [List.length_set] at hc
    rw [ga_set hi, ga_set hi, if_neg (by unfold par at hp; omega), if_neg (by unfold par; omega)]
    exact hb.over c hc h0 hp hi0
theorem ga_snoc {hs : List Tm} {y : Tm} (j : Nat) : ga (hs ++ [y]) j = if j = hs.length then y else ga hs j := by
  unfold ga
  simp only [List.getD_eq_getElem?_getD]
  by_cases e : j = hs.length
  · subst e; simp
  · rw [if_neg e]
    by_cases h : j < hs.length
    · rw [List.getElem?_append_left h]
    · rw [List.getElem?_eq_none (by simp; omega), List.getElem?_eq_none (by omega)]
theorem Heap.snoc {hs : List Tm} (h : Heap hs) (y : Tm) : HB (hs ++ [y]) hs.length := by
  constructor
  · intro j hj h0 e1 e2
    rw [List.length_append, List.length_singleton] at hj
    rw [ga_snoc, ga_snoc, if_neg e1, if_neg e2]
    exact h j (by omega) h0
  · intro c hc h0 hp hi0
    rw [List.length_append, List.length_singleton] at hc
    unfold par at hp; omega
theorem lessT_split {pre post : List Tm} {x : Tm} (hn : ((pre ++ x :: post).map (·.f0)).Nodup) : lessT (pre ++ x :: post) x.f0 = pre ++ post := by
  rw [List.map_append, List.map_cons, List.nodup_append] at hn
  obtain ⟨h1, h2, h3⟩ := hn
  rw [List.nodup_cons] at h2
  have f1 : pre.filter (fun y => !decide (y.f0 = x.f0)) = pre := List.filter_eq_self.2 fun y hy => by
    have : y.f0 ≠ x.f0 := fun e => h3 _ (List.mem_map.2 ⟨y, hy, rfl⟩) _ (List.mem_cons_self ..) e
    simpa using this
  have f2 : post.filter (fun y => !decide (y.f0 = x.f0)) = post := List.filter_eq_self.2 fun y hy => by
    have : y.f0 ≠ x.f0 := fun e => h2.1 (List.mem_map.2 ⟨y, hy, e⟩)
    simpa using this
  unfold lessT
  rw [List.filter_append, List.filter_cons_of_neg (by simp), f1, f2]
theorem set_perm {hs : List Tm} (hn : (hs.map (·.f0)).Nodup) {i : Nat} (hi : i < hs.length) (y : Tm) : (hs.set i y).Perm (lessT hs hs[i].f0 ++ [y]) := by
  have e : hs = hs.take i ++ hs[i] :: hs.drop (i + 1) := by rw [← List.drop_eq_getElem_cons hi, List.take_append_drop]
  have e2 : lessT hs hs[i].f0 = hs.take i ++ hs.drop (i + 1) := by
    have h := lessT_split (pre := hs.take i) (post := hs.drop (i + 1)) (x := hs[i]) (by rw [← e]; exact hn)
    rw [← e] at h; exact h
  rw [e2, List.set_eq_take_append_cons_drop, if_pos hi, List.append_assoc]
  exact List.Perm.append_left _ (List.perm_append_singleton _ _).symm
theorem lessT_none {hs : List Tm} {key : ByteArray} (h : findT hs key = none) : lessT hs key = hs := List.filter_eq_self.2 fun x hx => by
  have := List.find?_eq_none.1 h x hx
  simpa using this
theorem set_ok {hs : List Tm} (ho : TOk hs) {i : Nat} (hi : i < hs.length) (t : Int) : TOk (hs.set i ⟨hs[i].f0, t⟩) where
  ks := by
    have := congrArg (List.map (·.1)) (lies_set hs i t hi)
    rw [lies_fst, lies_fst] at this
    rw [this]; exact ho.ks
  len := by rw [List.length_set]; exact ho.len
def SetPost (w0 : World) (o : Nat) (hs : List Tm) (key : ByteArray) (at_ : Int) (R : HP) (w' : World) : Prop := ∃ hs', Heap hs' ∧ hs'.Perm (lessT hs key ++ [⟨key, at_⟩]) ∧ Sat w0 w' (tmr o hs' * R)
set_option maxHeartbeats 4000000 in
/-- 'Set', of a key that is there. -/
theorem tmSet_old {w0 w : World} {o i : Nat} {hs : List Tm} {at_ : Int} {R : HP} (hi : i < hs.length) (hh : Heap hs) (S : Sat w0 w (tmr o hs * R)) :
    Calls Try.prog 14 #[pt o, .string hs[i].f0, .int .i64 at_] w fun en w' => en = .returned (.bool false) ∧ SetPost w0 o hs hs[i].f0 at_ R w' := by
  obtain ⟨A, cap, mb, hok, hA, S1⟩ := S.tm_slice
  obtain ⟨g, rfl⟩ := hA (by omega)
  obtain ⟨c0, c1, -⟩ := blk2 S1.blk
  obtain ⟨g1, e1, x0, x1⟩ := S1.p2.row_two hi
  cases e1
  have fg := S1.p2.row_frz g rfl
  have hl := S1.p3.run_lookup keys_string tkm tks' tzero true hs[i].f0
  rw [lies_lk hok hi] at hl
  have hq := teql (some mb)
  have hi' : (i : Int) < hs.length := by omega
  have hlen := hok.len
  have S2 := S1.p2.row_setc (j := i * 2 + 1) (.int .i64 at_)
  rw [← flat_set1 hs i at_ hi, ← lies_set hs i at_ hi] at S2
  have HOK := Lib.hid (set_ok hok hi at_)
  have HS2 := Lib.hid S2
  obtain ⟨key, hkey⟩ : ∃ key, key = hs[i].f0 := ⟨_, rfl⟩
  obtain ⟨hs1, hhs1⟩ : ∃ hs1, hs1 = hs.set i ⟨hs[i].f0, at_⟩ := ⟨_, rfl⟩
  have HPS := Lib.hid (set_perm hok.ks hi ⟨hs[i].f0, at_⟩)
  have hhb := hh.set hi ⟨hs[i].f0, at_⟩
  have hgk : (ga (hs.set i ⟨hs[i].f0, at_⟩) i).f0 = hs[i].f0 := by rw [ga_set hi, if_pos rfl]
  have hil : i < (hs.set i ⟨hs[i].f0, at_⟩).length := by rw [List.length_set]; exact hi
  have hsl : hs.length = (hs.set i ⟨hs[i].f0, at_⟩).length := by rw [List.length_set]
  rw [← hkey] at hl x0 hgk ⊢
  rw [← hkey] at hhs1 HPS HS2 HOK hhb hil hsl
  rw [← hhs1] at HPS HS2 HOK hhb hgk hil hsl
  have HHB := Lib.hid hhb
  have HG := Lib.hid hgk
  have HI := Lib.hid hil
  have HL := Lib.hid hsl
  clear S S1 S2 hok hA hhb hgk hil hh hhs1 hkey hsl
  go_enter Try.func14, Try.ntmps14
  go_upto_region 11 with (fail)
  clear x0 x1 fg hl hq c0 c1
  refine gen_w HS2.out ?_
  clear HS2
  intro w1 S1
  have S1' := Sat.tm_shut (hs := hs1) HOK.out (v := .slice (some ⟨g, 0, none⟩) hs1.length cap) (S1.p2.cong (by rw [← HL.out]))
  have HS1 := Lib.hid S1'
  clear S1 S1'
  go_wp2_with fail
  refine (tmUp HI.out HHB.out HS1.out).mono ?_
  rintro en w2 ⟨rfl, hs2, i2, hu, hpo, S2⟩
  obtain ⟨A2, cap2, mb2, hok2, -, S3⟩ := S2.tm_slice
  obtain ⟨c0, c1, -⟩ := blk2 S3.blk
  have hi2 : i2 < hs2.length := hu.lt
  have hlk := lies_lk hok2 hi2
  have hgk : hs2[i2].f0 = key := by
    have := hu.same
    rw [show ga hs2 i2 = hs2[i2] from getD_at hu.lt] at this
    rw [this]; exact HG.out
  rw [hgk] at hlk
  have hl := S3.p3.run_lookup keys_string tkm tks' tzero false key
  rw [if_neg (by decide), hlk] at hl
  have HU := Lib.hid hu
  have HPO := Lib.hid hpo
  have HS2 := Lib.hid S2
  clear S2 S3 hu hpo hok2 hlk hgk HS1 hi2
  go_wp2_with fail
  refine (tmDown HU.out.lt HU.out.hb HPO.out HS2.out).mono ?_
  rintro en w3 ⟨rfl, hs3, hp3, hh3, S4⟩
  have HS4 := Lib.hid S4
  have HP3 := Lib.hid hp3
  have HH3 := Lib.hid hh3
  clear S4 hp3 hh3 c0 c1 hl HS2
  go_wp2_with fail
  go_ret
  exact ⟨rfl, hs3, HH3.out, (HP3.out.trans HU.out.perm).trans HPS.out, HS4.out⟩
theorem tmInfo : (Try.prog.info? 36).map (fun i => (i.zero, i.size, i.bytes)) = some (some (.agg #[.string ⟨#[]⟩, .int .i64 0]), 2, 24) := by kernel_rfl
theorem lies_snoc {hs : List Tm} {key : ByteArray} {t : Int} (hn : findT hs key = none) (ho : TOk hs) : (ins (lies hs) key (.int .i64 (hs.length : Nat))).Perm (lies (hs ++ [⟨key, t⟩])) := by
  have n1 : ((lies hs).map (·.1)).Nodup := by rw [lies_fst]; exact ho.ks
  have n2 : ((lies (hs ++ [⟨key, t⟩])).map (·.1)).Nodup := by
    rw [lies_fst, List.map_append, List.nodup_append]
    refine ⟨ho.ks, by simp, fun a ha b hb e => ?_⟩
    simp only [List.map_cons, List.map_nil, List.mem_singleton] at hb
    rw [e, hb] at ha
    exact findT_none hn ha
  refine (List.perm_ext_iff_of_nodup (nodup_of_fst (ins_nodup n1)) (nodup_of_fst n2)).2 fun p => ?_
  rw [mem_ins, mem_lies, mem_lies]
  constructor
  · rintro (rfl | ⟨⟨j, hj, rfl⟩, h1⟩)
    · exact ⟨hs.length, by simp, by simp⟩
    · exact ⟨j, by simp; omega, by rw [List.getElem_append_left hj]⟩
  · rintro ⟨j, hj, rfl⟩
    by_cases e : j < hs.length
    · right
      rw [List.getElem_append_left e]
      exact ⟨⟨j, e, rfl⟩, fun h => findT_none hn (List.mem_map.2 ⟨hs[j], List.getElem_mem e, h⟩)⟩
    · left
      have : j = hs.length := by simp at hj; omega
      subst this
      simp
theorem snoc_ok {hs : List Tm} {key : ByteArray} {t : Int} (hn : findT hs key = none) (ho : TOk hs) (hl : hs.length < 1000000) : TOk (hs ++ [⟨key, t⟩]) where
  ks := by
    rw [List.map_append, List.nodup_append]
    refine ⟨ho.ks, by simp, fun a ha b hb e => ?_⟩
    simp only [List.map_cons, List.map_nil, List.mem_singleton] at hb
    rw [e, hb] at ha
    exact findT_none hn ha
  len := by rw [List.length_append, List.length_singleton]; omega
set_option maxHeartbeats 8000000 in
/-- 'Set', of a key that is new. -/
theorem tmSet_new {w0 w : World} {o : Nat} {hs : List Tm} {key : ByteArray} {at_ : Int} {R : HP} (hn : findT hs key = none) (hll : hs.length < 1000000) (hh : Heap hs) (S : Sat w0 w (tmr o hs * R)) :
    Calls Try.prog 14 #[pt o, .string key, .int .i64 at_] w fun en w' => en = .returned (.bool true) ∧ SetPost w0 o hs key at_ R w' := by
  obtain ⟨A, cap, mb, hok, hA, S1⟩ := S.tm_slice
  obtain ⟨c0, c1, f0⟩ := blk2 S1.blk
  have hl := S1.p3.run_lookup keys_string tkm tks' tzero true key
  rw [lies_none hn] at hl
  have hq := teql (some mb)
  have hlen := hok.len
  have S2 := S1.alloc (.cells #[.string key, .int .i64 at_] 36)
  have b0 := S2.blk
  obtain ⟨v', w6, hr, S3⟩ := (S2.p3).run_append 30 30 Try.underlying30 tmInfo rfl (by decide) ⟨w.heap.size, 0, none⟩ 1 1 [.string key, .int .i64 at_] rfl
    (fun j y hj => by rw [Addr.add_lit, Nat.zero_add]; exact cell_of b0 j (by simpa using hj)) (by simp [Value.oneCell']) (by unfold maxLen; omega) (by omega)
  obtain ⟨g9, cap9, rfl⟩ := row_succ S3
  obtain ⟨v', hv'⟩ : ∃ v' : Value, v' = .slice (some ⟨g9, 0, none⟩) (hs.length + 1) cap9 := ⟨_, rfl⟩
  rw [← hv'] at S3
  obtain ⟨d0, d1, g0⟩ := blk2 S3.p3.blk
  have S4 := (S3.p3.p3.drop1.cong (B := pts o (.cells #[.slice A hs.length cap, .map (some mb)] 53 (0, 0)) * (row 36 2 v' (hs.length + 1) (hs.flatMap encT ++ [.string key, .int .i64 at_]) * (gmap Value.string mb (lies hs) * R))) (by ac_rfl)).setCell (i := 0) v'
  have S4' : Sat w0 _ (pts o (.cells #[v', .map (some mb)] 53 (0, 0)) * (row 36 2 v' (hs.length + 1) (hs.flatMap encT ++ [.string key, .int .i64 at_]) * (gmap Value.string mb (lies hs) * R))) := S4
  obtain ⟨w7, hu, S5⟩ := S4'.p3.run_mapUpdate keys_string tkm tks' key (.int .i64 (hs.length : Nat))
  rw [gmap_perm (lies_snoc (t := at_) hn hok)] at S5
  obtain ⟨hs1, hhs1⟩ : ∃ hs1 : List Tm, hs1 = hs ++ [⟨key, at_⟩] := ⟨_, rfl⟩
  have S6 := Sat.tm_shut (hs := hs ++ [⟨key, at_⟩]) (snoc_ok hn hok hll) (v := v') (S5.p2.cong (B := pts o (.cells #[v', .map (some mb)] 53 (0, 0)) * (row 36 2 v' (hs ++ [(⟨key, at_⟩ : Tm)]).length ((hs ++ [(⟨key, at_⟩ : Tm)]).flatMap encT) * (gmap Value.string mb (lies (hs ++ [(⟨key, at_⟩ : Tm)])) * R))) (by
    rw [List.flatMap_append, List.length_append, List.length_singleton, show ([⟨key, at_⟩] : List Tm).flatMap encT = [.string key, .int .i64 at_] from rfl]; ac_rfl))
  have HPS : Hid (hs1.Perm (lessT hs key ++ [⟨key, at_⟩])) := Lib.hid (by rw [hhs1, lessT_none hn])
  have HHB : Hid (HB hs1 hs.length) := Lib.hid (by rw [hhs1]; exact hh.snoc _)
  have HG : Hid ((ga hs1 hs.length).f0 = key) := Lib.hid (by rw [hhs1, ga_snoc, if_pos rfl])
  have HI : Hid (hs.length < hs1.length) := Lib.hid (by rw [hhs1]; simp)
  rw [← hhs1] at S6
  rw [hv'] at hu
  have HS1 := Lib.hid S6
  clear S S1 S2 S3 S4 S4' S5 S6 hok hA hn hh b0 hhs1 hv'
  go_enter Try.func14, Try.ntmps14
  go_wp2_with (at_builtin; refine wpList_append_eq rfl _ _ _ _ rfl rfl rfl hr ?_)
  clear c0 c1 f0 hl hq d0 d1 g0 hr
  refine (tmUp HI.out HHB.out HS1.out).mono ?_
  rintro en w2 ⟨rfl, hs2, i2, hu, hpo, S2⟩
  obtain ⟨A2, cap2, mb2, hok2, -, S3⟩ := S2.tm_slice
  obtain ⟨c0, c1, -⟩ := blk2 S3.blk
  have hi2 : i2 < hs2.length := hu.lt
  have hlk := lies_lk hok2 hi2
  have hgk : hs2[i2].f0 = key := by
    have := hu.same
    rw [show ga hs2 i2 = hs2[i2] from getD_at hu.lt] at this
    rw [this]; exact HG.out
  rw [hgk] at hlk
  have hl := S3.p3.run_lookup keys_string tkm tks' tzero false key
  rw [if_neg (by decide), hlk] at hl
  have HU := Lib.hid hu
  have HPO := Lib.hid hpo
  have HS2 := Lib.hid S2
  clear S2 S3 hu hpo hok2 hlk hgk HS1 hi2
  go_wp2_with fail
  refine (tmDown HU.out.lt HU.out.hb HPO.out HS2.out).mono ?_
  rintro en w3 ⟨rfl, hs3, hp3, hh3, S4⟩
  have HS4 := Lib.hid S4
  have HP3 := Lib.hid hp3
  have HH3 := Lib.hid hh3
  clear S4 hp3 hh3 c0 c1 hl HS2
  go_wp2_with fail
  go_ret
  exact ⟨rfl, hs3, HH3.out, (HP3.out.trans HU.out.perm).trans HPS.out, HS4.out⟩

/-- The zero timer. -/
def ztm (o : Nat) : HP := pts o (.cells #[.slice none 0 0, .map none] 53 (0, 0))
set_option maxHeartbeats 8000000 in
/-- 'Set', of the zero timer. -/
theorem tmSet_zero {w0 w : World} {o : Nat} {hs : List Tm} {key : ByteArray} {at_ : Int} {R : HP} (he : hs = []) (S : Sat w0 w (ztm o * R)) :
    Calls Try.prog 14 #[pt o, .string key, .int .i64 at_] w fun en w' => en = .returned (.bool true) ∧ SetPost w0 o hs key at_ R w' := by
  have HE := Lib.hid he
  obtain ⟨c0, c1, f0⟩ := blk2 S.blk
  obtain ⟨e0, e1, h0⟩ := blk2 (S.gmap_made (κ := ByteArray) (kv := Value.string)).p2.blk
  have hq := teql none
  have hmm := @run_makeMap Try.prog
  have S0 := ((S.gmap_made (κ := ByteArray) (kv := Value.string)).p2.setCell (i := 1) (.map (some w.heap.size)))
  have S0' : Sat w0 _ (pts o (.cells #[.slice none 0 0, .map (some w.heap.size)] 53 (0, 0)) * (gmap Value.string w.heap.size (lies []) * R)) := S0
  have S0'' := Sat.tm_shut (hs := []) (v := .slice none 0 0) (mb := w.heap.size) ⟨by simp, by simp⟩ ((S0'.row_nil 36 2).p2)
  rw [← he] at S0''
  have HS0 := Lib.hid S0''
  have HLT := Lib.hid S.lt
  clear S S0 S0' S0'' he
  go_enter Try.func14, Try.ntmps14
  go_upto_region 5 with (fail)
  clear c0 c1 f0 hq hmm e0 e1 h0
  refine gen_w HS0.out ?_
  clear HS0 HLT
  intro w S
  have hn : findT hs key = none := by rw [HE.out]; rfl
  have hll : hs.length < 1000000 := by rw [HE.out]; simp
  have hh : Heap hs := fun j hj => by rw [HE.out] at hj; simp at hj
  obtain ⟨A, cap, mb, hok, hA, S1⟩ := S.tm_slice
  obtain ⟨c0, c1, f0⟩ := blk2 S1.blk
  have hl := S1.p3.run_lookup keys_string tkm tks' tzero true key
  rw [lies_none hn] at hl
  have hq := teql (some mb)
  have hlen := hok.len
  have S2 := S1.alloc (.cells #[.string key, .int .i64 at_] 36)
  have b0 := S2.blk
  obtain ⟨v', w6, hr, S3⟩ := (S2.p3).run_append 30 30 Try.underlying30 tmInfo rfl (by decide) ⟨w.heap.size, 0, none⟩ 1 1 [.string key, .int .i64 at_] rfl
    (fun j y hj => by rw [Addr.add_lit, Nat.zero_add]; exact cell_of b0 j (by simpa using hj)) (by simp [Value.oneCell']) (by unfold maxLen; omega) (by omega)
  obtain ⟨g9, cap9, rfl⟩ := row_succ S3
  obtain ⟨v', hv'⟩ : ∃ v' : Value, v' = .slice (some ⟨g9, 0, none⟩) (hs.length + 1) cap9 := ⟨_, rfl⟩
  rw [← hv'] at S3
  obtain ⟨d0, d1, g0⟩ := blk2 S3.p3.blk
  have S4 := (S3.p3.p3.drop1.cong (B := pts o (.cells #[.slice A hs.length cap, .map (some mb)] 53 (0, 0)) * (row 36 2 v' (hs.length + 1) (hs.flatMap encT ++ [.string key, .int .i64 at_]) * (gmap Value.string mb (lies hs) * R))) (by ac_rfl)).setCell (i := 0) v'
  have S4' : Sat w0 _ (pts o (.cells #[v', .map (some mb)] 53 (0, 0)) * (row 36 2 v' (hs.length + 1) (hs.flatMap encT ++ [.string key, .int .i64 at_]) * (gmap Value.string mb (lies hs) * R))) := S4
  obtain ⟨w7, hu, S5⟩ := S4'.p3.run_mapUpdate keys_string tkm tks' key (.int .i64 (hs.length : Nat))
  rw [gmap_perm (lies_snoc (t := at_) hn hok)] at S5
  obtain ⟨hs1, hhs1⟩ : ∃ hs1 : List Tm, hs1 = hs ++ [⟨key, at_⟩] := ⟨_, rfl⟩
  have S6 := Sat.tm_shut (hs := hs ++ [⟨key, at_⟩]) (snoc_ok hn hok hll) (v := v') (S5.p2.cong (B := pts o (.cells #[v', .map (some mb)] 53 (0, 0)) * (row 36 2 v' (hs ++ [(⟨key, at_⟩ : Tm)]).length ((hs ++ [(⟨key, at_⟩ : Tm)]).flatMap encT) * (gmap Value.string mb (lies (hs ++ [(⟨key, at_⟩ : Tm)])) * R))) (by
    rw [List.flatMap_append, List.length_append, List.length_singleton, show ([⟨key, at_⟩] : List Tm).flatMap encT = [.string key, .int .i64 at_] from rfl]; ac_rfl))
  have HPS : Hid (hs1.Perm (lessT hs key ++ [⟨key, at_⟩])) := Lib.hid (by rw [hhs1, lessT_none hn])
  have HHB : Hid (HB hs1 hs.length) := Lib.hid (by rw [hhs1]; exact hh.snoc _)
  have HG : Hid ((ga hs1 hs.length).f0 = key) := Lib.hid (by rw [hhs1, ga_snoc, if_pos rfl])
  have HI : Hid (hs.length < hs1.length) := Lib.hid (by rw [hhs1]; simp)
  rw [← hhs1] at S6
  rw [hv'] at hu
  have HS1 := Lib.hid S6
  clear S S1 S2 S3 S4 S4' S5 S6 hok hA hn hh b0 hhs1 hv'
  go_wp2_with (at_builtin; refine wpList_append_eq rfl _ _ _ _ rfl rfl rfl hr ?_)
  clear c0 c1 f0 hl hq d0 d1 g0 hr
  refine (tmUp HI.out HHB.out HS1.out).mono ?_
  rintro en w2 ⟨rfl, hs2, i2, hu, hpo, S2⟩
  obtain ⟨A2, cap2, mb2, hok2, -, S3⟩ := S2.tm_slice
  obtain ⟨c0, c1, -⟩ := blk2 S3.blk
  have hi2 : i2 < hs2.length := hu.lt
  have hlk := lies_lk hok2 hi2
  have hgk : hs2[i2].f0 = key := by
    have := hu.same
    rw [show ga hs2 i2 = hs2[i2] from getD_at hu.lt] at this
    rw [this]; exact HG.out
  rw [hgk] at hlk
  have hl := S3.p3.run_lookup keys_string tkm tks' tzero false key
  rw [if_neg (by decide), hlk] at hl
  have HU := Lib.hid hu
  have HPO := Lib.hid hpo
  have HS2 := Lib.hid S2
  clear S2 S3 hu hpo hok2 hlk hgk HS1 hi2
  go_wp2_with fail
  refine (tmDown HU.out.lt HU.out.hb HPO.out HS2.out).mono ?_
  rintro en w3 ⟨rfl, hs3, hp3, hh3, S4⟩
  have HS4 := Lib.hid S4
  have HP3 := Lib.hid hp3
  have HH3 := Lib.hid hh3
  clear S4 hp3 hh3 c0 c1 hl HS2
  go_wp2_with fail
  go_ret
  exact ⟨rfl, hs3, HH3.out, (HP3.out.trans HU.out.perm).trans HPS.out, HS4.out⟩

/-- 'Drop'. -/
theorem tmDrop_nil (key : ByteArray) (w : World) : Calls Try.prog 22 #[.pointer none, .string key] w fun en w' => en = .returned (.bool false) ∧ w' = w := by
  go_enter Try.func22, Try.ntmps22
  go_wp2_with fail
  go_ret
  exact ⟨rfl, rfl⟩
theorem tmDrop_zero {w0 w : World} {o : Nat} {key : ByteArray} {R : HP} (S : Sat w0 w (ztm o * R)) : Calls Try.prog 22 #[pt o, .string key] w fun en w' => en = .returned (.bool false) ∧ w' = w := by
  obtain ⟨c0, c1, f0⟩ := blk2 S.blk
  have hl := run_lookup_nil keys_string tkm tks' tzero w true key
  clear S
  go_enter Try.func22, Try.ntmps22
  go_wp2_with fail
  go_ret
  exact ⟨rfl, rfl⟩
theorem tmAt_zero {w0 w : World} {o : Nat} {key : ByteArray} {R : HP} (S : Sat w0 w (ztm o * R)) : Calls Try.prog 19 #[pt o, .string key] w fun en w' => en = .returned (.tuple #[.int .i64 0, .bool false]) ∧ w' = w := by
  obtain ⟨c0, c1, f0⟩ := blk2 S.blk
  have hl := run_lookup_nil keys_string tkm tks' tzero w true key
  clear S
  go_enter Try.func19, Try.ntmps19
  go_wp2_with fail
  go_ret2
  exact ⟨rfl, rfl⟩
theorem tmDrop_none {w0 w : World} {o : Nat} {hs : List Tm} {key : ByteArray} {R : HP} (hn : findT hs key = none) (S : Sat w0 w (tmr o hs * R)) : Calls Try.prog 22 #[pt o, .string key] w fun en w' => en = .returned (.bool false) ∧ w' = w := by
  obtain ⟨A, cap, mb, hok, hA, S1⟩ := S.tm_slice
  obtain ⟨c0, c1, f0⟩ := blk2 S1.blk
  have hl := S1.p3.run_lookup keys_string tkm tks' tzero true key
  rw [lies_none hn] at hl
  clear S S1 hok hA hn
  go_enter Try.func22, Try.ntmps22
  go_wp2_with fail
  go_ret
  exact ⟨rfl, rfl⟩
theorem Sat.row_cut {w0 w : World} {e g n m cap : Nat} {xs : List Value} {R : HP} (hm : m ≤ n) (S : Sat w0 w (row e 2 (.slice (some ⟨g, 0, none⟩) n cap) n xs * R)) :
    Sat w0 w (row e 2 (.slice (some ⟨g, 0, none⟩) m cap) m (xs.take (m * 2)) * R) := by
  obtain ⟨hl, h⟩ := S.row_open
  rcases h with ⟨h0, _⟩ | ⟨g2, cap2, cur, hv, hn, hmx, hs, ht, S1⟩
  · cases h0
  · injection hv with hv h2 h3
    injection hv with hv
    injection hv with hv
    subst hv h3
    refine Sat.row_shut (by rw [List.length_take, hl]; omega) (by omega) hmx hs ?_ S1
    rw [← ht, List.take_take]
    congr 1; omega
theorem flat_take : ∀ (hs : List Tm) (m : Nat), (hs.flatMap encT).take (m * 2) = (hs.take m).flatMap encT
  | [], m => by simp
  | x :: hs, 0 => by simp
  | x :: hs, m + 1 => by
    rw [List.flatMap_cons, List.take_succ_cons, List.flatMap_cons, show (m + 1) * 2 = m * 2 + 1 + 1 from by omega, ← flat_take hs m]
    rfl
theorem liesFrom_append : ∀ (hs : List Tm) (n : Nat) (x : Tm), liesFrom n (hs ++ [x]) = liesFrom n hs ++ [(x.f0, .int .i64 (n + hs.length : Nat))]
  | [], n, x => by simp [liesFrom]
  | y :: hs, n, x => by
    rw [List.cons_append, liesFrom, liesFrom_append hs (n + 1) x, liesFrom, List.cons_append, List.length_cons, show n + 1 + hs.length = n + (hs.length + 1) from by omega]
theorem era_lies {hs : List Tm} {x : Tm} (hn : ((hs ++ [x]).map (·.f0)).Nodup) : era (lies (hs ++ [x])) x.f0 = lies hs := by
  rw [List.map_append, List.nodup_append] at hn
  obtain ⟨h1, h2, h3⟩ := hn
  unfold lies
  rw [liesFrom_append]
  unfold era
  rw [List.filter_append, List.filter_cons_of_neg (by simp), List.filter_nil, List.append_nil]
  refine List.filter_eq_self.2 fun p hp => ?_
  have hm : p.1 ∈ hs.map (·.f0) := by rw [← lies_fst]; exact List.mem_map.2 ⟨p, hp, rfl⟩
  have : p.1 ≠ x.f0 := fun e => h3 _ hm _ (by simp) e
  simpa using this
theorem Heap.take {hs : List Tm} (h : Heap hs) (m : Nat) : Heap (hs.take m) := by
  intro j hj h0
  rw [List.length_take] at hj
  have e : ∀ k, k < m → ga (hs.take m) k = ga hs k := fun k hk => by
    unfold ga; simp only [List.getD_eq_getElem?_getD]; rw [List.getElem?_take_of_lt hk]
  rw [e j (by omega), e (par j) (by unfold par; omega)]
  exact h j (by omega) h0
/-- What the exchange with the last one leaves in front. -/
theorem sw_last {hs : List Tm} {i M : Nat} (hM : hs.length = M + 1) (hi : i < hs.length) : sw hs i M = (sw hs i M).take M ++ [hs[i]] := by
  have hl : (sw hs i M).length = M + 1 := by rw [sw_length, hM]
  have e1 := List.take_append_drop M (sw hs i M)
  have e2 : (sw hs i M).drop M = [hs[i]] := by
    rw [List.drop_eq_getElem_cons (by omega), List.drop_of_length_le (by omega), sw_at hi (by omega), if_pos rfl]
  rw [e2] at e1
  exact e1.symm
theorem sw_take {hs : List Tm} {i M : Nat} (hM : hs.length = M + 1) (hi : i < M) : (sw hs i M).take M = (hs.take M).set i (ga hs M) := by
  refine List.ext_getElem (by rw [List.length_take, sw_length, List.length_set, List.length_take]) fun j h1 h2 => ?_
  have hj : j < M := by rw [List.length_take] at h1; omega
  rw [List.getElem_take, sw_at (by omega) (by omega), if_neg (by omega), List.getElem_set]
  by_cases e : i = j
  · subst e; rw [if_pos rfl, if_pos rfl]; exact (getD_at (by omega)).symm
  · rw [if_neg (fun h => e h.symm), if_neg e, List.getElem_take]
theorem drop_perm {hs : List Tm} (hn : (hs.map (·.f0)).Nodup) {i M : Nat} (hM : hs.length = M + 1) (hi : i < hs.length) : ((sw hs i M).take M).Perm (lessT hs hs[i].f0) := by
  have hp : (sw hs i M).Perm hs := sw_perm hi (by omega)
  have h2 : (lessT (sw hs i M) hs[i].f0).Perm (lessT hs hs[i].f0) := hp.filter _
  have hn2 : ((sw hs i M).map (·.f0)).Nodup := (hp.map _).nodup_iff.2 hn
  rw [sw_last hM hi] at hn2
  have h3 := lessT_split (pre := (sw hs i M).take M) (post := []) hn2
  rw [List.append_nil] at h3
  have e := sw_last hM hi
  have h4 : lessT (sw hs i M) hs[i].f0 = (sw hs i M).take M := by
    have h5 : lessT (sw hs i M) hs[i].f0 = lessT ((sw hs i M).take M ++ [hs[i]]) hs[i].f0 := congrArg (fun l => lessT l hs[i].f0) e
    rw [h5]; exact h3
  rw [h4] at h2; exact h2
def DropPost (w0 : World) (o : Nat) (hs : List Tm) (key : ByteArray) (R : HP) (w' : World) : Prop := ∃ hs', Heap hs' ∧ hs'.Perm (lessT hs key) ∧ Sat w0 w' (tmr o hs' * R)
set_option maxHeartbeats 8000000 in
/-- 'Drop', of a key that is there. -/
theorem tmDrop_in {w0 w : World} {o i : Nat} {hs : List Tm} {R : HP} (hi : i < hs.length) (hh : Heap hs) (S : Sat w0 w (tmr o hs * R)) :
    Calls Try.prog 22 #[pt o, .string hs[i].f0] w fun en w' => en = .returned (.bool true) ∧ DropPost w0 o hs hs[i].f0 R w' := by
  obtain ⟨M, hM⟩ : ∃ M, hs.length = M + 1 := ⟨hs.length - 1, by omega⟩
  obtain ⟨A, cap, mb, hok, hA, S1⟩ := S.tm_slice
  obtain ⟨g, rfl⟩ := hA (by omega)
  obtain ⟨c0, c1, -⟩ := blk2 S1.blk
  have hl := S1.p3.run_lookup keys_string tkm tks' tzero true hs[i].f0
  rw [lies_lk hok hi] at hl
  have hlen := hok.len
  rw [hM] at c0 hlen
  have hiM : i ≤ M := by omega
  have HM := Lib.hid hM
  have HOK := Lib.hid hok
  have HHH := Lib.hid hh
  have HS := Lib.hid S
  have HI := Lib.hid hi
  have hpm := drop_perm hok.ks hM hi
  have HSL := Lib.hid (sw_last hM hi)
  obtain ⟨key, hkey⟩ : ∃ key, key = (hs[i]'hi).f0 := ⟨_, rfl⟩
  have HK : Hid (key = (hs[i]'hi).f0) := Lib.hid hkey
  rw [← hkey] at hl hpm
  rw [← hkey]
  have HPM := Lib.hid hpm
  clear S S1 hok hA hh hM hkey hpm
  go_enter Try.func22, Try.ntmps22
  go_wp2_with fail
  refine (tmSwap HI.out (k := M) (by have := HM.out; omega) HS.out).mono ?_
  rintro en w1 ⟨rfl, S2⟩
  clear c0 c1 hl
  obtain ⟨A, cap2, mb2, hok2, hA, S3⟩ := S2.tm_slice
  have hl2 : (sw hs i M).length = M + 1 := by rw [sw_length]; exact HM.out
  obtain ⟨g2, rfl⟩ := hA (by omega)
  rw [hl2] at S3
  have hcap : (M : Int) < cap2 := by
    obtain ⟨_, h⟩ := S3.p2.row_open
    rcases h with ⟨h0, _⟩ | ⟨g3, cap3, cur, hv, hn, _⟩
    · cases h0
    · injection hv with _ _ h3
      omega
  have hcap1 : (M : Int) ≤ cap2 := by omega
  obtain ⟨c0, c1, f0⟩ := blk2 S3.blk
  have S4 := (S3.p2.row_cut (m := M) (by omega)).p2.setCell (i := 0) (.slice (some ⟨g2, 0, none⟩) M cap2)
  rw [flat_take] at S4
  obtain ⟨d0, d1, g0⟩ := blk2 S4.blk
  obtain ⟨w3, hd, S5⟩ := S4.p3.run_delete keys_string tkm tks' key 0 9
  have hn2 := hok2.ks
  rw [HSL.out] at hn2
  have he := era_lies hn2
  rw [← HSL.out, ← HK.out] at he
  rw [he] at S5
  obtain ⟨hs2, hhs2⟩ : ∃ hs2, hs2 = (sw hs i M).take M := ⟨_, rfl⟩
  have hok3 : TOk ((sw hs i M).take M) := ⟨hok2.ks.sublist ((List.take_sublist _ _).map _), by rw [List.length_take]; omega⟩
  have hl3 : ((sw hs i M).take M).length = M := by rw [List.length_take]; omega
  have S5' := S5.p2.cong (B := pts o (.cells #[.slice (some ⟨g2, 0, none⟩) M cap2, .map (some mb2)] 53 (0, 0)) * (row 36 2 (.slice (some ⟨g2, 0, none⟩) M cap2) ((sw hs i M).take M).length (((sw hs i M).take M).flatMap encT) * (gmap Value.string mb2 (lies ((sw hs i M).take M)) * R))) (by rw [hl3]; simp only [List.set_toArray, List.setIfInBounds_toArray]; ac_rfl)
  have S6 := Sat.tm_shut hok3 (v := .slice (some ⟨g2, 0, none⟩) M cap2) (S5'.cong (by rw [hl3]))
  have HS5 := Lib.hid S5'
  have HS6 := Lib.hid S6
  have HOK3 := Lib.hid hok3
  have HL3 := Lib.hid hl3
  clear S2 S3 S4 S5 S5' S6 hok2 hok3 hA hl2 hn2 he hl3 hhs2 HS
  by_cases him : i < M
  · obtain ⟨hs2, hhs2⟩ : ∃ hs2, hs2 = (sw hs i M).take M := ⟨_, rfl⟩
    have hhb : HB ((sw hs i M).take M) i := by
      rw [sw_take HM.out him]
      exact (HHH.out.take M).set (by rw [List.length_take]; have := HM.out; omega) _
    rw [← hhs2] at HS5 HS6 HL3 HPM HOK3 hhb
    have hi2 : i < hs2.length := by rw [HL3.out]; exact him
    obtain ⟨e0, e1, -⟩ := blk2 HS5.out.blk
    obtain ⟨g3, e2, x0, x1⟩ := (HS5.out.p2).row_two hi2
    cases e2
    obtain ⟨mk, hmk⟩ : ∃ mk, mk = (hs2[i]'hi2).f0 := ⟨_, rfl⟩
    rw [← hmk] at x0
    have HG : Hid ((ga hs2 i).f0 = mk) := Lib.hid (by rw [show ga hs2 i = hs2[i] from getD_at hi2, hmk])
    have HI2 := Lib.hid hi2
    have HHB := Lib.hid hhb
    have HPS := Lib.hid HPM.out
    have HS1 := Lib.hid HS6.out
    clear HS5 HS6 hhs2 hhb x1 hmk HPM
    clear hi2
    have hi2' : (i : Int) < (M : Int) := by omega
    go_wp2_with fail
    clear c0 c1 d0 d1 f0 g0 e0 e1 x0
    have HI := HI2
    refine (tmUp HI.out HHB.out HS1.out).mono ?_
    rintro en w2 ⟨rfl, hs2, i2, hu, hpo, S2⟩
    obtain ⟨A2, cap2, mb2, hok2, -, S3⟩ := S2.tm_slice
    obtain ⟨c0, c1, -⟩ := blk2 S3.blk
    have hi2 : i2 < hs2.length := hu.lt
    have hlk := lies_lk hok2 hi2
    have hgk : hs2[i2].f0 = mk := by
      have := hu.same
      rw [show ga hs2 i2 = hs2[i2] from getD_at hu.lt] at this
      rw [this]; exact HG.out
    rw [hgk] at hlk
    have hl := S3.p3.run_lookup keys_string tkm tks' tzero false mk
    rw [if_neg (by decide), hlk] at hl
    have HU := Lib.hid hu
    have HPO := Lib.hid hpo
    have HS2 := Lib.hid S2
    clear S2 S3 hu hpo hok2 hlk hgk HS1 hi2
    go_wp2_with fail
    refine (tmDown HU.out.lt HU.out.hb HPO.out HS2.out).mono ?_
    rintro en w3 ⟨rfl, hs3, hp3, hh3, S4⟩
    have HS4 := Lib.hid S4
    have HP3 := Lib.hid hp3
    have HH3 := Lib.hid hh3
    clear S4 hp3 hh3 c0 c1 hl HS2
    go_wp2_with fail
    go_ret
    exact ⟨rfl, hs3, HH3.out, (HP3.out.trans HU.out.perm).trans HPS.out, HS4.out⟩
  · have hi2 : i = M := by omega
    subst hi2
    go_wp2_with fail
    go_ret
    have hhp : Heap ((sw hs i i).take i) := by
      have : sw hs i i = hs := by simp only [sw, getD_at hi, List.set_set, List.set_getElem_self]
      rw [this]; exact HHH.out.take i
    exact ⟨rfl, _, hhp, HPM.out, HS6.out⟩
end Go.Sl
