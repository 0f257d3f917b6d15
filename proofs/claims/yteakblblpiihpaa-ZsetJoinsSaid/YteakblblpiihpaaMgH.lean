/-
  zset.Join: the walk.
  A range over a map that is owned: each entry comes once, in whatever order. Over any program.
  Rows of whole numbers, owned: from what was made, and read.
  zset.Join, in plain words: what was gathered of the map, sorted, is the document's list.
  zset.Join's sort: by score, then member.
  zset.Join's map: what it has behind so many members, in plain words.
  zset.Join's map: each member's scores and weights, owned.
-/
import Derived.Test.YteakblblpiihpaaProg
import Derived.Test.YteakblblpiihpaaMgA
import Derived.KernelRfl
import Derived.Lib.Hide
import Derived.Test.YteakblblpiihpaaMgG
import Derived.Test.YteakblblpiihpaaMgD
import Derived.Test.YteakblblpiihpaaMgC
import Derived.Test.YteakblblpiihpaaShJ
import Derived.Lib.Bytealg
import Derived.Test.YteakblblpiihpaaMgB
import Derived.Maps.RangeWalk
import Derived.Deep.RegionHeld3
import Derived.Deep.RegionLaw
/-! ### Jm -/
namespace Go.Sl
open Go.RowKit Go.Proofs
set_option linter.unusedVariables false
set_option linter.unusedSimpArgs false
set_option maxRecDepth 100000

abbrev rI (v : Value) (xs : List Int) : HP := row 2 1 v xs.length (xs.map (Value.int .i64))
/-- What was found of a member: its scores with their weights, and the slices that they lie in. -/
structure En where
  k : ByteArray
  ps : List (Int × Int)
  sv : Value
  wv : Value
def En.rows (e : En) : HP := rI e.sv (e.ps.map (·.1)) * rI e.wv (e.ps.map (·.2))
def entE (es : List En) : List (ByteArray × Value) := es.map fun e => (e.k, .agg #[e.sv, e.wv])
def metJ (mb : Nat) (es : List En) : HP := gmap Value.string mb (entE es) * star (es.map En.rows)
def outE (es : List En) (m : ByteArray) : List En := es.filter fun e => !decide (e.k = m)
def getE (es : List En) (m : ByteArray) : List (Int × Int) := ((es.find? fun e => decide (e.k = m)).map (·.ps)).getD []
theorem int64Info : (Try.prog.info? 2).map (fun i => (i.zero, i.size, i.bytes)) = some (some (.int .i64 0), 1, 8) := by kernel_rfl
theorem entE_era (es : List En) (m : ByteArray) : era (entE es) m = entE (outE es m) := by
  unfold era entE outE
  rw [List.filter_map]
  rfl
theorem outE_none {es : List En} {m : ByteArray} (h : (es.find? fun e => decide (e.k = m)) = none) : outE es m = es := List.filter_eq_self.2 fun e he => by
  have := List.find?_eq_none.1 h e he
  simpa using this
theorem outE_perm {es : List En} (hn : (es.map (·.k)).Nodup) {e : En} (he : e ∈ es) : es.Perm (e :: outE es e.k) := by
  obtain ⟨a, c, rfl⟩ := List.append_of_mem he
  rw [List.map_append, List.map_cons, List.nodup_append, List.nodup_cons] at hn
  obtain ⟨h1, h2, h3⟩ := hn
  have e1 : outE a e.k = a := List.filter_eq_self.2 fun q hq => by
    simp only [Bool.not_eq_true', decide_eq_false_iff_not]
    exact fun x => h3 _ (List.mem_map.2 ⟨q, hq, rfl⟩) _ List.mem_cons_self x
  have e2 : outE c e.k = c := List.filter_eq_self.2 fun q hq => by
    simp only [Bool.not_eq_true', decide_eq_false_iff_not]
    exact fun x => h2.1 (List.mem_map.2 ⟨q, hq, x⟩)
  have : outE (a ++ e :: c) e.k = a ++ c := by
    unfold outE at *
    rw [List.filter_append, List.filter_cons_of_neg (by simp), e1, e2]
  rw [this]
  exact List.perm_middle
/-- A member's slices, taken out; nil ones where there is none. -/
theorem Sat.met_out {w0 w : World} {mb : Nat} {es : List En} {m : ByteArray} {R : HP} (hn : (es.map (·.k)).Nodup) (S : Sat w0 w (metJ mb es * R)) :
    ∃ sv wv, (lk (entE es) m).getD (.agg #[.slice none 0 0, .slice none 0 0]) = .agg #[sv, wv] ∧ Sat w0 w (rI sv ((getE es m).map (·.1)) * (rI wv ((getE es m).map (·.2)) * (gmap Value.string mb (entE es) * (star ((outE es m).map En.rows) * R)))) := by
  unfold metJ at S
  cases hf : es.find? (fun e => decide (e.k = m)) with
  | none =>
    have hg : getE es m = [] := by unfold getE; rw [hf]; rfl
    refine ⟨.slice none 0 0, .slice none 0 0, ?_, ?_⟩
    · rw [lk_none (fun p hp e => by
        obtain ⟨x, hx, rfl⟩ := List.mem_map.1 hp
        exact List.find?_eq_none.1 hf x hx (by simpa using e))]
      rfl
    · rw [hg, outE_none hf]
      have := (S.row_nil 2 1).row_nil 2 1
      exact this.cong (by simp only [rI, List.map_nil, List.length_nil]; ac_rfl)
  | some e =>
    have he : e ∈ es := List.mem_of_find?_eq_some hf
    have hk : e.k = m := by simpa using List.find?_some hf
    have hg : getE es m = e.ps := by unfold getE; rw [hf]; rfl
    refine ⟨e.sv, e.wv, ?_, ?_⟩
    · have h1 : lk (entE es) m = some (.agg #[e.sv, e.wv]) := lk_some (l := entE es) (by unfold entE; rw [List.map_map]; exact hn) (by rw [← hk]; exact List.mem_map.2 ⟨e, he, rfl⟩)
      rw [h1]
      rfl
    · rw [hg, ← hk]
      rw [star_perm ((outE_perm hn he).map En.rows), List.map_cons, star_cons] at S
      exact S.cong (by unfold En.rows; ac_rfl)
/-- Put back. -/
theorem Sat.met_in {w0 w : World} {mb : Nat} {es : List En} {m : ByteArray} {ps : List (Int × Int)} {sv wv : Value} {R : HP}
    (S : Sat w0 w (rI sv (ps.map (·.1)) * (rI wv (ps.map (·.2)) * (gmap Value.string mb (ins (entE es) m (.agg #[sv, wv])) * (star ((outE es m).map En.rows) * R))))) : Sat w0 w (metJ mb (⟨m, ps, sv, wv⟩ :: outE es m) * R) := by
  unfold metJ
  refine S.cong ?_
  unfold ins
  rw [entE_era, List.map_cons, star_cons]
  show _ = gmap Value.string mb ((m, .agg #[sv, wv]) :: entE (outE es m)) * ((rI sv (ps.map (·.1)) * rI wv (ps.map (·.2))) * star ((outE es m).map En.rows)) * R
  ac_rfl
theorem outE_nodup {es : List En} {m : ByteArray} {e : En} (hn : (es.map (·.k)).Nodup) (he : e.k = m) : ((e :: outE es m).map (·.k)).Nodup := by
  rw [List.map_cons, List.nodup_cons]
  refine ⟨fun h => ?_, hn.sublist (List.filter_sublist.map _)⟩
  obtain ⟨x, hx, hxe⟩ := List.mem_map.1 h
  have := (List.mem_filter.1 hx).2
  simp only [Bool.not_eq_true', decide_eq_false_iff_not] at this
  exact this (by rw [hxe, he])
/-- 'append(v, x)', x in an array of its own. -/
theorem rI_app {w0 w : World} {v : Value} {xs : List Int} {x : Int} {b : Nat} {R : HP} (hl : xs.length < 1000000) (S : Sat w0 w (rI v xs * (pts b (.cells #[.int .i64 x] 2 (0, 0)) * R))) :
    ∃ g c w', (Builtin.append_ #[82, 82] 82 #[v, .slice (some ⟨b, 0, none⟩) 1 1]).run Try.prog w = .ok (.slice (some ⟨g, 0, none⟩) (xs.length + 1) c) w' ∧ Sat w0 w' (rI (.slice (some ⟨g, 0, none⟩) (xs.length + 1) c) (xs ++ [x]) * (pts b (.cells #[.int .i64 x] 2 (0, 0)) * R)) := by
  obtain ⟨v', w', hr, S'⟩ := S.run_append 82 82 Try.underlying82 int64Info rfl (by decide) ⟨b, 0, none⟩ 1 1 [.int .i64 x] rfl (fun j u hj => by
    rw [Addr.add_lit, Nat.zero_add]
    exact cell_of S.p2.blk j (by
      have hj0 : j = 0 := by
        have := (List.getElem?_eq_some_iff.1 hj).1
        simp at this; exact this
      subst hj0
      simpa using hj)) (by simp [Value.oneCell']) (by unfold maxLen; omega) (by omega)
  obtain ⟨g, c, rfl⟩ := row_succ S'
  exact ⟨g, c, w', hr, S'.cong (by simp only [rI, List.length_append, List.map_append, List.map_cons, List.map_nil, List.length_cons, List.length_nil, Nat.zero_add])⟩
theorem rI_slice {w0 w : World} {v : Value} {xs : List Int} {R : HP} (S : Sat w0 w (rI v xs * R)) : ∃ A c, v = .slice A xs.length c := by
  obtain ⟨_, h⟩ := S.row_open
  rcases h with ⟨rfl, h0, _, _⟩ | ⟨g, cap, cur, rfl, _⟩
  · exact ⟨none, 0, by rw [h0]⟩
  · exact ⟨_, _, rfl⟩
end Go.Sl
/-! ### Jk -/
namespace Go.Sl
open Go.RowKit Go.Proofs Go.Proofs.YteakblblpiihpaaW.PrintWords Go.Proofs.Yteakblblpiihpaa.PZs
set_option linter.unusedVariables false
set_option linter.unusedSimpArgs false

theorem prsM_append (ws : List Int) (m : ByteArray) : ∀ (A B : List (List Sc)) (i : Nat), prsM ws m i (A ++ B) = prsM ws m i A ++ prsM ws m (i + A.length) B
  | [], B, i => by simp [prsM]
  | l :: A, B, i => by
    have e : i + (l :: A).length = i + 1 + A.length := by simp only [List.length_cons]; omega
    rw [List.cons_append, e]
    simp only [prsM]
    cases findS l m with
    | none => exact prsM_append ws m A B (i + 1)
    | some s => simp only [List.cons_append]; rw [prsM_append ws m A B (i + 1)]
theorem prsM_one (ws : List Int) (m : ByteArray) (i : Nat) (l : List Sc) : prsM ws m i [l] = match findS l m with | some s => [(s, pw ws i)] | none => [] := by
  simp only [prsM]
  cases findS l m <;> rfl
theorem findS_nil (m : ByteArray) : findS [] m = none := rfl
theorem findS_snoc {l : List Sc} {x : Sc} {m : ByteArray} : findS (l ++ [x]) m = match findS l m with | some s => some s | none => if x.f0 = m then some x.f1 else none := by
  unfold findS
  rw [List.find?_append]
  cases l.find? (fun y => decide (y.f0 = m)) with
  | some y => rfl
  | none =>
    by_cases h : x.f0 = m
    · simp [h]
    · simp [h]
/-- What the map has behind i lists and k members of the next one. -/
structure MetOk (ws : List Int) (es : List En) (L : List (List Sc)) : Prop where
  nd : (es.map (·.k)).Nodup
  get : ∀ m, getE es m = prsM ws m 0 L
  ne : ∀ e ∈ es, e.ps ≠ []
theorem met_nil (ws : List Int) : MetOk ws [] [] := ⟨by simp, fun m => rfl, fun e he => by cases he⟩
theorem met_next {ws : List Int} {es : List En} {L : List (List Sc)} (h : MetOk ws es L) : MetOk ws es (L ++ [[]]) :=
  ⟨h.nd, fun m => by rw [h.get, prsM_append, prsM_one, findS_nil, List.append_nil], h.ne⟩
theorem getE_cons {es : List En} {e : En} {m k : ByteArray} : getE (e :: outE es k) m = if e.k = m then e.ps else getE (outE es k) m := by
  unfold getE
  rw [List.find?_cons]
  by_cases h : e.k = m
  · simp [h]
  · simp [h]
theorem getE_out {es : List En} {m k : ByteArray} (h : k ≠ m) : getE (outE es k) m = getE es m := by
  unfold getE outE
  congr 2
  induction es with
  | nil => rfl
  | cons e es ih =>
    by_cases hk : e.k = k
    · rw [List.filter_cons_of_neg (by simp [hk]), List.find?_cons_of_neg (by simp [hk, h]), ih]
    · rw [List.filter_cons_of_pos (by simp [hk])]
      by_cases hm : e.k = m
      · rw [List.find?_cons_of_pos (by simp [hm]), List.find?_cons_of_pos (by simp [hm])]
      · rw [List.find?_cons_of_neg (by simp [hm]), List.find?_cons_of_neg (by simp [hm]), ih]
theorem met_step {ws : List Int} {es : List En} {A : List (List Sc)} {l : List Sc} {x : Sc} {sv wv : Value} (h : MetOk ws es (A ++ [l])) (hx : findS l x.f0 = none) :
    MetOk ws (⟨x.f0, getE es x.f0 ++ [(x.f1, pw ws A.length)], sv, wv⟩ :: outE es x.f0) (A ++ [l ++ [x]]) := by
  refine ⟨outE_nodup h.nd rfl, fun m => ?_, fun e he => ?_⟩
  · rw [getE_cons]
    have hg := h.get m
    rw [prsM_append, prsM_one, Nat.zero_add] at hg
    rw [prsM_append, prsM_one, Nat.zero_add, findS_snoc]
    by_cases hm : x.f0 = m
    · subst hm
      rw [hx] at hg ⊢
      rw [if_pos rfl]
      simp only [if_true]
      rw [hg, List.append_nil]
    · rw [if_neg hm, getE_out hm, hg]
      congr 1
      cases findS l m with
      | some s => rfl
      | none => simp [hm]
  · rcases List.mem_cons.1 he with rfl | he
    · simp
    · exact h.ne e (List.mem_filter.1 he).1
end Go.Sl
/-! ### Js -/
namespace Go.Sl
open Go.RowKit Go.Proofs Go.Proofs.YteakblblpiihpaaW.PrintWords Go.Proofs.Yteakblblpiihpaa.PZs Go.Sort
set_option linter.unusedVariables false
set_option linter.unusedSimpArgs false
set_option maxRecDepth 100000

instance instScJ : Inhabited Sc := ⟨⟨⟨#[]⟩, 0⟩⟩
theorem ltS_asymmJ {a b : Sc} (h : ltS a b = true) : ltS b a = false := by
  cases hb : ltS b a with
  | false => rfl
  | true => have := ltS_trans h hb; rw [ltS_irrefl] at this; cases this
theorem leS_transJ {a b c : Sc} (h1 : ltS a b = false) (h2 : ltS b c = false) : ltS a c = false := by
  cases hac : ltS a c with
  | false => rfl
  | true =>
    cases hba : ltS b a with
    | true => have := ltS_trans hba hac; rw [h2] at this; cases this
    | false =>
      have e := ltS_total h1 hba
      rw [e, h2] at hac
      cases hac
def cmpB (a b : ByteArray) : Int := Lib.compareBytes a.data.toList b.data.toList
theorem cmpBa (a b : ByteArray) (w : World) : Calls Try.prog 80 #[.string a, .string b] w fun en w' => en = .returned (.int .i64 (cmpB a b)) ∧ w' = w := by
  go_enter Try.func80, Try.ntmps80
  go_wp2_with fail
  rw [run_callFunc_extern Try.func108 (by kernel_rfl) (by kernel_rfl) (by kernel_rfl) (e := Extern.BytealgCompare.compare) (by kernel_rfl), Lib.run_compareString]
  simp only [Result.andThen]
  rw [Oper.upon_value]
  go_wp2_with fail
  go_ret
  exact ⟨rfl, rfl⟩
theorem cmpStr (a b : ByteArray) (w : World) : Calls Try.prog 59 #[.string a, .string b] w fun en w' => en = .returned (.int .i64 (cmpB a b)) ∧ w' = w := by
  go_enter Try.func59, Try.ntmps59
  go_wp2_with fail
  refine (cmpBa a b _).mono ?_
  rintro en w1 ⟨rfl, rfl⟩
  go_wp2_with fail
  go_ret
  exact ⟨rfl, rfl⟩
theorem cmpBytes_lt : ∀ a b : List UInt8, Lib.compareBytes a b < 0 ↔ a < b
  | [], [] => by simp [Lib.compareBytes]
  | [], _ :: _ => by simp [Lib.compareBytes]
  | _ :: _, [] => by simp [Lib.compareBytes]
  | x :: a, y :: b => by
    unfold Lib.compareBytes
    rw [List.cons_lt_cons_iff]
    by_cases h1 : x < y
    · simp [h1]
    · rw [if_neg h1]
      by_cases h2 : y < x
      · rw [if_pos h2]
        have : x ≠ y := fun e => UInt8.lt_irrefl x (e ▸ h2)
        simp [h1, this]
      · rw [if_neg h2, cmpBytes_lt a b]
        have : x = y := UInt8.le_antisymm (UInt8.not_lt.1 h2) (UInt8.not_lt.1 h1)
        simp [h1, this]
def cfS (x y : Sc) : Int := if x.f1 < y.f1 then -1 else if y.f1 < x.f1 then 1 else cmpB x.f0 y.f0
theorem ltCf (x y : Sc) : ltOf cfS x y = ltS x y := by
  unfold ltOf
  rw [Bool.eq_iff_iff, ltS_iff, decide_eq_true_iff]
  unfold cfS
  by_cases h1 : x.f1 < y.f1
  · simp [h1]
  · rw [if_neg h1]
    by_cases h2 : y.f1 < x.f1
    · rw [if_pos h2]
      constructor
      · intro h; omega
      · rintro (h | ⟨h, _⟩) <;> omega
    · rw [if_neg h2]
      have e : x.f1 = y.f1 := by omega
      unfold cmpB
      rw [cmpBytes_lt, ByteArray.toList_eq, ByteArray.toList_eq]
      simp [e]
theorem swoS : SWO (ltOf cfS) where
  irrefl x := by rw [ltCf]; exact ltS_irrefl x
  trans x y z h1 h2 := by rw [ltCf] at *; exact ltS_trans h1 h2
  ntrans x y z h1 h2 := by rw [ltCf] at *; exact leS_transJ h1 h2
set_option maxHeartbeats 4000000 in
/-- 'func(a, b api.Scored) int': two boxes are laid. -/
theorem cmpSc (x y : Sc) (W : World) : Calls Try.prog 58 #[.agg #[.string x.f0, .int .i64 x.f1], .agg #[.string y.f0, .int .i64 y.f1]] W fun en w' => en = .returned (.int .i64 (cfS x y)) ∧ w' = (W.alloc (.cells #[.string x.f0, .int .i64 x.f1] 30)).alloc (.cells #[.string y.f0, .int .i64 y.f1] 30) := by
  by_cases h1 : x.f1 < y.f1
  · have e : cfS x y = -1 := by unfold cfS; rw [if_pos h1]
    rw [e]
    generalize x.f1 = a at *
    generalize y.f1 = b at *
    have d1 : decide (a < b) = true := decide_eq_true h1
    clear e h1
    go_enter Try.func58, Try.ntmps58
    go_wp2_with fail
    go_ret
    exact ⟨rfl, rfl⟩
  · by_cases h2 : y.f1 < x.f1
    · have e : cfS x y = 1 := by unfold cfS; rw [if_neg h1, if_pos h2]
      rw [e]
      generalize x.f1 = a at *
      generalize y.f1 = b at *
      have d1 : decide (a < b) = false := decide_eq_false h1
      have d2 : decide (b < a) = true := decide_eq_true h2
      clear e h1
      go_enter Try.func58, Try.ntmps58
      go_wp2_with fail
      go_ret
      exact ⟨rfl, rfl⟩
    · have e : cfS x y = cmpB x.f0 y.f0 := by unfold cfS; rw [if_neg h1, if_neg h2]
      rw [e]
      generalize x.f1 = a at *
      generalize y.f1 = b at *
      have d1 : decide (a < b) = false := decide_eq_false h1
      have d2 : decide (b < a) = false := decide_eq_false h2
      clear e h1 h2
      go_enter Try.func58, Try.ntmps58
      go_wp2_with fail
      refine (cmpStr _ _ _).mono ?_
      rintro en w1 ⟨rfl, rfl⟩
      go_wp2_with fail
      go_ret
      exact ⟨rfl, rfl⟩
/-- In order, none twice. -/
def Srt (r : List Sc) : Prop := r.Pairwise fun a b => ltS a b = true
theorem srt_unique {d r : List Sc} (hp : d.Perm r) (hd : d.Pairwise fun a b => ltS b a = false) (hr : Srt r) : d = r :=
  List.Perm.eq_of_pairwise (le := fun a b => ltS b a = false) (fun a b _ _ h1 h2 => ltS_total h2 h1) hd (hr.imp fun h => ltS_asymmJ h) hp
/-- The sort. -/
theorem sortSc {w0 w : World} {g cap : Nat} {hs r : List Sc} {R : HP} (hp : r.Perm hs) (hr : Srt r) (hsz : hs.length < 4611686018427387904)
    (S : Sat w0 w (row 30 2 (.slice (some ⟨g, 0, none⟩) hs.length cap) hs.length (hs.flatMap encS) * R)) :
    Calls Try.prog 57 #[.slice (some ⟨g, 0, none⟩) hs.length cap, .func (.func 58) #[] #[]] w fun en w' => en = .returned (.tuple #[]) ∧
      Sat w0 w' (row 30 2 (.slice (some ⟨g, 0, none⟩) hs.length cap) hs.length (r.flatMap encS) * R) := by
  obtain ⟨d, hd⟩ : ∃ d : Array Sc, d = hs.toArray := ⟨_, rfl⟩
  have hdl : d.toList = hs := by rw [hd]
  have hds : hs.length = d.size := by rw [hd]; simp
  rw [hds] at S
  rw [← hdl] at S
  have eg : ∀ args w, (callFunc 58 args).run Try.prog w = .ok (.enter 58 args) w := enters_of Try.func58 (by kernel_rfl) rfl
  have hcmp : CmpLays Try.prog 58 #[] encS 2 cfS g 0 d.size w := by
    intro m os dk hk x y
    refine (cmpSc x y _).mono ?_
    rintro e w' ⟨he, rfl⟩
    exact ⟨he, 0, _, by rw [alloc_eq_grow, alloc_eq_grow, grow_grow]; rfl⟩
  have hcon := AnyQ.slices_SortFunc Try.sortJ 2 Try.isAgg30 Try.sizeOf30 encS (fun _ => rfl) (fun x v hv => by simp [encS] at hv; rcases hv with rfl | rfl <;> rfl) cfS swoS 58 #[] g 0 cap d w eg hcmp (Sat.row_holdsK flatS S) (by
    obtain ⟨_, h⟩ := S.row_open
    rcases h with ⟨h0, _⟩ | ⟨g2, cap2, cur, hv, _, _, _, _, S1⟩
    · cases h0
    · injection hv with hv; injection hv with hv; injection hv with hv
      subst hv; exact S1.lt) (by rw [← hds]; exact hsz)
  change Calls Try.prog 57 _ _ _ at hcon
  rw [hds]
  refine hcon.mono ?_
  rintro e w' ⟨he, d', m, os, hpi, hs', rfl⟩
  refine ⟨he, ?_⟩
  obtain ⟨p1, p2, p3⟩ := hpi
  rw [show d.extract 0 d.size = d from by simp, show d'.extract 0 d.size = d' from by rw [← p1]; simp] at p3
  rw [← p1] at hs'
  have ek : d'.toList = r := srt_unique (p3.trans (by rw [hdl]; exact hp.symm)) (List.pairwise_iff_getElem.2 fun i j hi hj hij => by
    have hi' : i < d'.size := by simpa using hi
    have hj' : j < d'.size := by simpa using hj
    have := hs' i j (Nat.zero_le _) hij hj'
    rw [getElem!_pos d' i hi', getElem!_pos d' j hj', ltCf] at this
    rw [Array.getElem_toList, Array.getElem_toList]; exact this) hr
  rw [← p1] at S ⊢
  rw [← ek]
  exact Sat.row_worldK flatS S m os
end Go.Sl
/-! ### Jl -/
namespace Go.Sl
open Go.RowKit Go.Proofs Go.Proofs.YteakblblpiihpaaW.PrintWords Go.Proofs.Yteakblblpiihpaa.PZs
set_option linter.unusedVariables false
set_option linter.unusedSimpArgs false

theorem findS_none {l : List Sc} {m : ByteArray} : findS l m = none ↔ ∀ y ∈ l, y.f0 ≠ m := by
  unfold findS
  rw [Option.map_eq_none_iff, List.find?_eq_none]
  exact ⟨fun h y hy e => h y hy (by simpa using e), fun h y hy e => h y hy (by simpa using e)⟩
theorem findS_isSome_false {l : List Sc} {m : ByteArray} : (findS l m).isSome = false ↔ findS l m = none := by
  cases findS l m <;> simp
theorem findS_some {l : List Sc} {m : ByteArray} (h : findS l m ≠ none) : ∃ y ∈ l, y.f0 = m := by
  refine Classical.byContradiction fun hc => h (findS_none.2 fun y hy e => hc ⟨y, hy, e⟩)
theorem prsM_ne {ws : List Int} {m : ByteArray} : ∀ (L : List (List Sc)) (i : Nat), prsM ws m i L ≠ [] ↔ ∃ x ∈ L.flatten, x.f0 = m
  | [], i => by simp [prsM]
  | l :: L, i => by
    have ih := prsM_ne (ws := ws) (m := m) L (i + 1)
    simp only [prsM]
    cases hf : findS l m with
    | some s =>
      simp only [ne_eq, reduceCtorEq, not_false_eq_true, true_iff]
      obtain ⟨y, hy, e⟩ := findS_some (l := l) (m := m) (by rw [hf]; simp)
      exact ⟨y, by rw [List.flatten_cons]; exact List.mem_append_left _ hy, e⟩
    | none =>
      simp only
      rw [ih]
      have h1 := findS_none.1 hf
      constructor
      · rintro ⟨x, hx, e⟩
        exact ⟨x, by rw [List.flatten_cons]; exact List.mem_append_right _ hx, e⟩
      · rintro ⟨x, hx, e⟩
        rw [List.flatten_cons] at hx
        rcases List.mem_append.1 hx with hx | hx
        · exact absurd e (h1 x hx)
        · exact ⟨x, hx, e⟩
theorem prsM_fits {ws : List Int} {m : ByteArray} (hw : ∀ x ∈ ws, fitsI x = true) : ∀ (L : List (List Sc)) (i : Nat), (∀ l ∈ L, ∀ x ∈ l, fitsI x.f1 = true) → ∀ p ∈ prsM ws m i L, fitsI p.1 = true ∧ fitsI p.2 = true
  | [], i, _, p, hp => by simp [prsM] at hp
  | l :: L, i, hs, p, hp => by
    simp only [prsM] at hp
    have ih := prsM_fits (ws := ws) (m := m) hw L (i + 1) (fun l hl => hs l (List.mem_cons_of_mem _ hl)) p
    cases hf : findS l m with
    | some s =>
      rw [hf] at hp
      rcases List.mem_cons.1 hp with rfl | hp
      · exact ⟨findS_fits (hs l List.mem_cons_self) hf, pw_fits hw i⟩
      · exact ih hp
    | none =>
      rw [hf] at hp
      exact ih hp
theorem prsM_len0 (ws : List Int) (m : ByteArray) : ∀ (L : List (List Sc)) (i : Nat), (prsM ws m i L).length ≤ L.length
  | [], i => by simp [prsM]
  | l :: L, i => by
    have := prsM_len0 ws m L (i + 1)
    simp only [prsM]
    cases findS l m with
    | none => simp only [List.length_cons]; omega
    | some s => simp only [List.length_cons]; omega
theorem nodup_le {α : Type} [DecidableEq α] : ∀ {a b : List α}, a.Nodup → (∀ x ∈ a, x ∈ b) → a.length ≤ b.length
  | [], b, _, _ => by simp
  | x :: a, b, hn, hs => by
    rw [List.nodup_cons] at hn
    have hx := hs x List.mem_cons_self
    have := nodup_le (a := a) (b := b.erase x) hn.2 (fun y hy => (List.mem_erase_of_ne (fun e => hn.1 (by rw [← e]; exact hy))).2 (hs y (List.mem_cons_of_mem _ hy)))
    rw [List.length_erase_of_mem hx] at this
    have hp : 0 < b.length := List.length_pos_of_mem hx
    rw [List.length_cons]; omega
theorem mem_insS {l : List Sc} {x y : Sc} : y ∈ insS l x ↔ y = x ∨ y ∈ l := by
  rw [(ins_perm_S l x).mem_iff, List.mem_cons]
theorem joinF_some {all : Bool} {how : Int} {ws : List Int} {L : List (List Sc)} : ∀ (T out : List Sc), ZOk out → (∀ x ∈ T, x.f0.size ≤ maxLen) → out.length + T.length < 1000000 →
    (∀ x ∈ T, findS out x.f0 = none → inJ all ws L x.f0 = true → (scJ how ws L x.f0).isSome = true) →
    ∃ r, joinF all how ws L T out = some r ∧ ZOk r ∧ r.length ≤ out.length + T.length ∧ ∀ y, y ∈ r ↔ y ∈ out ∨ (findS out y.f0 = none ∧ (∃ x ∈ T, x.f0 = y.f0) ∧ inJ all ws L y.f0 = true ∧ scJ how ws L y.f0 = some y.f1)
  | [], out, hz, _, _, _ => ⟨out, rfl, hz, by simp, fun y => by simp⟩
  | x :: T, out, hz, hs, hb, ho => by
    rw [List.length_cons] at hb
    have hsT : ∀ x ∈ T, x.f0.size ≤ maxLen := fun y hy => hs y (List.mem_cons_of_mem _ hy)
    cases hf : (findS out x.f0).isSome with
    | true =>
      rw [joinF_has hf]
      obtain ⟨r, h1, h2, h3, h4⟩ := joinF_some (all := all) (how := how) (ws := ws) (L := L) T out hz hsT (by omega) (fun y hy => ho y (List.mem_cons_of_mem _ hy))
      refine ⟨r, h1, h2, by rw [List.length_cons]; omega, fun y => ?_⟩
      rw [h4]
      refine or_congr_right ⟨?_, ?_⟩
      · rintro ⟨a, ⟨z, hz, e⟩, b⟩
        exact ⟨a, ⟨z, List.mem_cons_of_mem _ hz, e⟩, b⟩
      · rintro ⟨a, ⟨z, hz, e⟩, b⟩
        rcases List.mem_cons.1 hz with rfl | hz
        · rw [e, a] at hf; cases hf
        · exact ⟨a, ⟨z, hz, e⟩, b⟩
    | false =>
      cases hi : inJ all ws L x.f0 with
      | false =>
        rw [joinF_out hf hi]
        obtain ⟨r, h1, h2, h3, h4⟩ := joinF_some (all := all) (how := how) (ws := ws) (L := L) T out hz hsT (by omega) (fun y hy => ho y (List.mem_cons_of_mem _ hy))
        refine ⟨r, h1, h2, by rw [List.length_cons]; omega, fun y => ?_⟩
        rw [h4]
        refine or_congr_right ⟨?_, ?_⟩
        · rintro ⟨a, ⟨z, hz, e⟩, b⟩
          exact ⟨a, ⟨z, List.mem_cons_of_mem _ hz, e⟩, b⟩
        · rintro ⟨a, ⟨z, hz, e⟩, b⟩
          rcases List.mem_cons.1 hz with rfl | hz
          · rw [e] at hi; rw [hi] at b; exact absurd b.1 (by decide)
          · exact ⟨a, ⟨z, hz, e⟩, b⟩
      | true =>
        have hn := findS_isSome_false.1 hf
        obtain ⟨z, hz1⟩ := Option.isSome_iff_exists.1 (ho x List.mem_cons_self hn hi)
        rw [joinF_in hf hi hz1]
        have hz2 : ZOk (insS out ⟨x.f0, z⟩) := ins_ok hz (find_none_ne hf) (hs x List.mem_cons_self) (by omega)
        have hl : (insS out ⟨x.f0, z⟩).length = out.length + 1 := by rw [(ins_perm_S _ _).length_eq, List.length_cons]
        have hsub : ∀ m, findS (insS out ⟨x.f0, z⟩) m = none ↔ x.f0 ≠ m ∧ findS out m = none := fun m => by
          rw [findS_none, findS_none]
          constructor
          · intro h
            exact ⟨h ⟨x.f0, z⟩ (mem_insS.2 (.inl rfl)), fun y hy => h y (mem_insS.2 (.inr hy))⟩
          · rintro ⟨h1, h2⟩ y hy
            rcases mem_insS.1 hy with rfl | hy
            · exact h1
            · exact h2 y hy
        obtain ⟨r, h1, h2, h3, h4⟩ := joinF_some (all := all) (how := how) (ws := ws) (L := L) T (insS out ⟨x.f0, z⟩) hz2 hsT (by omega) (fun y hy h => ho y (List.mem_cons_of_mem _ hy) ((hsub _).1 h).2)
        refine ⟨r, h1, h2, by rw [List.length_cons]; omega, fun y => ?_⟩
        rw [h4, mem_insS, hsub]
        constructor
        · rintro ((rfl | h) | ⟨⟨h, a⟩, ⟨q, hq, e⟩, b⟩)
          · exact .inr ⟨hn, ⟨x, List.mem_cons_self, rfl⟩, hi, hz1⟩
          · exact .inl h
          · exact .inr ⟨a, ⟨q, List.mem_cons_of_mem _ hq, e⟩, b⟩
        · rintro (h | ⟨a, ⟨q, hq, e⟩, b1, b2⟩)
          · exact .inl (.inr h)
          · by_cases hxy : x.f0 = y.f0
            · refine .inl (.inl ?_)
              rw [← hxy, hz1] at b2
              injection b2 with b2
              obtain ⟨k, v⟩ := y
              simp only at hxy b2
              rw [hxy, b2]
            · refine .inr ⟨⟨hxy, a⟩, ?_, b1, b2⟩
              rcases List.mem_cons.1 hq with rfl | hq
              · exact absurd e hxy
              · exact ⟨q, hq, e⟩
theorem joinF_none {all : Bool} {how : Int} {ws : List Int} {L : List (List Sc)} : ∀ (T out : List Sc), (∃ x ∈ T, findS out x.f0 = none ∧ inJ all ws L x.f0 = true ∧ scJ how ws L x.f0 = none) → joinF all how ws L T out = none
  | [], out, ⟨x, hx, _⟩ => by cases hx
  | y :: T, out, ⟨x, hx, h1, h2, h3⟩ => by
    cases hf : (findS out y.f0).isSome with
    | true =>
      rw [joinF_has hf]
      rcases List.mem_cons.1 hx with rfl | hx
      · rw [h1] at hf; cases hf
      · exact joinF_none T out ⟨x, hx, h1, h2, h3⟩
    | false =>
      cases hi : inJ all ws L y.f0 with
      | false =>
        rw [joinF_out hf hi]
        rcases List.mem_cons.1 hx with rfl | hx
        · rw [h2] at hi; cases hi
        · exact joinF_none T out ⟨x, hx, h1, h2, h3⟩
      | true =>
        cases hz : scJ how ws L y.f0 with
        | none => exact joinF_over hf hi hz
        | some z =>
          rw [joinF_in hf hi hz]
          have hne : y.f0 ≠ x.f0 := fun e => by rw [e, h3] at hz; cases hz
          rcases List.mem_cons.1 hx with rfl | hx
          · exact absurd rfl hne
          · refine joinF_none T _ ⟨x, hx, ?_, h2, h3⟩
            rw [findS_none] at h1 ⊢
            intro q hq
            rcases mem_insS.1 hq with rfl | hq
            · exact hne
            · exact h1 q hq

/-- What was gathered so far: those that are in, of the members that were met. -/
structure OutJ (all : Bool) (how : Int) (ws : List Int) (L : List (List Sc)) (es : List En) (todo : List (ByteArray × Value)) (out : List Sc) : Prop where
  sub : ∀ p ∈ todo, p ∈ entE es
  nd : (out.map (·.f0)).Nodup
  mem : ∀ y, y ∈ out ↔ (∃ e ∈ es, e.k = y.f0) ∧ y.f0 ∉ todo.map (·.1) ∧ inJ all ws L y.f0 = true ∧ scJ how ws L y.f0 = some y.f1
  ok : ∀ e ∈ es, e.k ∉ todo.map (·.1) → inJ all ws L e.k = true → (scJ how ws L e.k).isSome = true
theorem era_keys {todo : List (ByteArray × Value)} {k m : ByteArray} : m ∈ (era todo k).map (·.1) ↔ m ∈ todo.map (·.1) ∧ m ≠ k := by
  unfold era
  simp only [List.mem_map, List.mem_filter, Bool.not_eq_true', decide_eq_false_iff_not]
  constructor
  · rintro ⟨p, ⟨h1, h2⟩, rfl⟩; exact ⟨⟨p, h1, rfl⟩, h2⟩
  · rintro ⟨⟨p, h1, rfl⟩, h2⟩; exact ⟨p, ⟨h1, h2⟩, rfl⟩
theorem outJ_start (all : Bool) (how : Int) (ws : List Int) (L : List (List Sc)) (es : List En) : OutJ all how ws L es (entE es) [] where
  sub := fun p hp => hp
  nd := by simp
  mem := fun y => by
    constructor
    · intro h; cases h
    · rintro ⟨⟨e, he, hk⟩, h, -⟩
      exact absurd (List.mem_map.2 ⟨(e.k, .agg #[e.sv, e.wv]), List.mem_map.2 ⟨e, he, rfl⟩, hk⟩) h
  ok := fun e he h => absurd (List.mem_map.2 ⟨(e.k, .agg #[e.sv, e.wv]), List.mem_map.2 ⟨e, he, rfl⟩, rfl⟩) h
theorem OutJ.skip {all : Bool} {how : Int} {ws : List Int} {L : List (List Sc)} {es : List En} {todo : List (ByteArray × Value)} {out : List Sc} {k : ByteArray} (h : OutJ all how ws L es todo out) (hi : inJ all ws L k = false) : OutJ all how ws L es (era todo k) out where
  sub := fun p hp => h.sub p (List.mem_filter.1 hp).1
  nd := h.nd
  mem := fun y => by
    rw [h.mem, era_keys]
    constructor
    · rintro ⟨a, b, c⟩; exact ⟨a, fun x => b x.1, c⟩
    · rintro ⟨a, b, c⟩
      refine ⟨a, fun x => b ⟨x, fun e => ?_⟩, c⟩
      rw [e, hi] at c; exact absurd c.1 (by decide)
  ok := fun e he hn h2 => by
    refine h.ok e he (fun x => hn (era_keys.2 ⟨x, fun e2 => ?_⟩)) h2
    rw [e2, hi] at h2; cases h2
theorem OutJ.add {all : Bool} {how : Int} {ws : List Int} {L : List (List Sc)} {es : List En} {todo : List (ByteArray × Value)} {out : List Sc} {e : En} {v : Value} {z : Int} (h : OutJ all how ws L es todo out) (he : e ∈ es) (hm : (e.k, v) ∈ todo) (hi : inJ all ws L e.k = true) (hz : scJ how ws L e.k = some z) :
    OutJ all how ws L es (era todo e.k) (out ++ [⟨e.k, z⟩]) where
  sub := fun p hp => h.sub p (List.mem_filter.1 hp).1
  nd := by
    rw [List.map_append, List.nodup_append]
    refine ⟨h.nd, by simp, ?_⟩
    intro a ha b hb
    simp only [List.map_cons, List.map_nil, List.mem_singleton] at hb
    subst hb
    rintro rfl
    obtain ⟨y, hy, e1⟩ := List.mem_map.1 ha
    have := ((h.mem y).1 hy).2.1
    rw [e1] at this
    exact this (List.mem_map.2 ⟨_, hm, rfl⟩)
  mem := fun y => by
    rw [List.mem_append, h.mem, era_keys, List.mem_singleton]
    constructor
    · rintro (⟨a, b, c⟩ | rfl)
      · exact ⟨a, fun x => b x.1, c⟩
      · exact ⟨⟨e, he, rfl⟩, fun x => x.2 rfl, hi, hz⟩
    · rintro ⟨a, b, c⟩
      by_cases hk : y.f0 = e.k
      · refine .inr ?_
        obtain ⟨k, s⟩ := y
        simp only at hk c
        subst hk
        rw [hz] at c
        have := c.2
        injection this with this
        rw [this]
      · exact .inl ⟨a, fun x => b ⟨x, hk⟩, c⟩
  ok := fun e2 he2 hn h2 => by
    by_cases hk : e2.k = e.k
    · rw [hk, hz]; rfl
    · exact h.ok e2 he2 (fun x => hn (era_keys.2 ⟨x, hk⟩)) h2
theorem met_entry {ws : List Int} {es : List En} {L : List (List Sc)} (h : MetOk ws es L) {k : ByteArray} {v : Value} (hm : (k, v) ∈ entE es) : ∃ e ∈ es, k = e.k ∧ v = .agg #[e.sv, e.wv] ∧ e.ps = prsM ws e.k 0 L := by
  obtain ⟨e, he, hq⟩ := List.mem_map.1 hm
  injection hq with h1 h2
  refine ⟨e, he, h1.symm, h2.symm, ?_⟩
  rw [← h.get]
  unfold getE
  have : es.find? (fun q => decide (q.k = e.k)) = some e := by
    obtain ⟨a, c, rfl⟩ := List.append_of_mem he
    have hn := h.nd
    rw [List.map_append, List.map_cons, List.nodup_append] at hn
    rw [List.find?_append, List.find?_eq_none.2 (fun q hq e2 => hn.2.2 _ (List.mem_map.2 ⟨q, hq, rfl⟩) _ List.mem_cons_self (by simpa using e2)), List.find?_cons_of_pos (by simp)]
    rfl
  rw [this]; rfl
theorem met_has {ws : List Int} {es : List En} {L : List (List Sc)} (h : MetOk ws es L) (m : ByteArray) : (∃ e ∈ es, e.k = m) ↔ ∃ x ∈ L.flatten, x.f0 = m := by
  rw [← prsM_ne (ws := ws) L 0, ← h.get]
  unfold getE
  constructor
  · rintro ⟨e, he, hk⟩
    cases hf : es.find? (fun q => decide (q.k = m)) with
    | none => exact absurd (by simpa using hk) (List.find?_eq_none.1 hf e he)
    | some q => exact h.ne q (List.mem_of_find?_eq_some hf)
  · intro hne
    cases hf : es.find? (fun q => decide (q.k = m)) with
    | none => rw [hf] at hne; exact absurd rfl hne
    | some q => exact ⟨q, List.mem_of_find?_eq_some hf, by simpa using List.find?_some hf⟩
theorem join_over {all : Bool} {how : Int} {ws : List Int} {L : List (List Sc)} {es : List En} (h : MetOk ws es L) {e : En} (he : e ∈ es) (hi : inJ all ws L e.k = true) (hz : scJ how ws L e.k = none) : joinF all how ws L L.flatten [] = none := by
  obtain ⟨x, hx, e1⟩ := (met_has h e.k).1 ⟨e, he, rfl⟩
  exact joinF_none _ _ ⟨x, hx, rfl, by rw [e1]; exact hi, by rw [e1]; exact hz⟩
theorem flatten_le {L : List (List Sc)} {M : Nat} (h : ∀ l ∈ L, l.length ≤ M) : L.flatten.length ≤ L.length * M := by
  induction L with
  | nil => simp
  | cons l L ih =>
    have := ih (fun l hl => h l (List.mem_cons_of_mem _ hl))
    have := h l List.mem_cons_self
    rw [List.flatten_cons, List.length_append, List.length_cons, Nat.add_mul]
    omega
theorem join_end {all : Bool} {how : Int} {ws : List Int} {L : List (List Sc)} {es : List En} {out : List Sc} (h : MetOk ws es L) (ho : OutJ all how ws L es [] out) (hL : L.length ≤ 1000) (hM : ∀ l ∈ L, l.length ≤ 100) (hs : ∀ l ∈ L, ∀ x ∈ l, x.f0.size ≤ maxLen) :
    ∃ r, joinF all how ws L L.flatten [] = some r ∧ ZOk r ∧ r.Perm out := by
  have hfl := flatten_le hM
  have h100 : L.length * 100 ≤ 100000 := by omega
  obtain ⟨r, h1, h2, h3, h4⟩ := joinF_some (all := all) (how := how) (ws := ws) (L := L) L.flatten [] zok_nil (fun x hx => by
    obtain ⟨l, hl, hx⟩ := List.mem_flatten.1 hx
    exact hs l hl x hx) (by simp only [List.length_nil]; omega) (fun x hx _ hi => by
      obtain ⟨e, he, hk⟩ := (met_has h x.f0).2 ⟨x, hx, rfl⟩
      rw [← hk] at hi ⊢
      exact ho.ok e he (by simp) hi)
  refine ⟨r, h1, h2, (List.perm_ext_iff_of_nodup ?_ ?_).2 fun y => ?_⟩
  · exact List.Pairwise.of_map _ (fun a b hab e => hab (by rw [e])) h2.ks
  · exact List.Pairwise.of_map _ (fun a b hab e => hab (by rw [e])) ho.nd
  · rw [h4, ho.mem]
    simp only [List.not_mem_nil, false_or, List.map_nil, not_false_eq_true, true_and]
    rw [met_has h]
    exact ⟨fun x => x.2, fun x => ⟨rfl, x⟩⟩
theorem outJ_len {all : Bool} {how : Int} {ws : List Int} {L : List (List Sc)} {es : List En} {todo : List (ByteArray × Value)} {out : List Sc} (ho : OutJ all how ws L es todo out) (h : MetOk ws es L) (hL : L.length ≤ 1000) (hM : ∀ l ∈ L, l.length ≤ 100) : out.length ≤ 100000 := by
  have hfl := flatten_le hM
  have h100 : L.length * 100 ≤ 100000 := by omega
  have hsub : ∀ m ∈ out.map (·.f0), m ∈ L.flatten.map (·.f0) := fun m hm => by
    obtain ⟨y, hy, rfl⟩ := List.mem_map.1 hm
    obtain ⟨x, hx, e⟩ := (met_has h y.f0).1 ((ho.mem y).1 hy).1
    exact List.mem_map.2 ⟨x, hx, e⟩
  have := nodup_le ho.nd hsub
  rw [List.length_map, List.length_map] at this
  omega
theorem inJ_iff {all : Bool} {ws : List Int} {L : List (List Sc)} {m : ByteArray} : inJ all ws L m = !(all && decide (((prsM ws m 0 L).length : Int) < (L.length : Int))) := by
  have := prsM_len0 ws m L 0
  unfold inJ
  cases all
  · rfl
  · simp only [Bool.not_true, Bool.false_or, Bool.true_and]
    by_cases h : (prsM ws m 0 L).length = L.length
    · have h2 : ¬ ((prsM ws m 0 L).length : Int) < (L.length : Int) := by omega
      simp [h]
    · have h2 : ((prsM ws m 0 L).length : Int) < (L.length : Int) := by omega
      simp [h, h2]
theorem srt_of {r : List Sc} (h : ZOk r) : Srt r := h.ord
end Go.Sl
/-! ### Ki -/
namespace Go.Sl
open Go.RowKit Go.Proofs.YteakblblpiihpaaW.PrintWords
set_option linter.unusedVariables false
set_option linter.unusedSimpArgs false

theorem reps_scalar {α : Type} {enc : α → Value} {R : α → List Value → Prop} (hR : ∀ x cs, R x cs → cs = [enc x]) {xs : List α} {inner : List Value} (h : Reps R 1 xs inner) : inner = xs.map enc := by
  obtain ⟨hl, hr⟩ := h
  refine List.ext_getElem (by simpa using hl) fun j h1 h2 => ?_
  have hj : j < xs.length := by simpa using h2
  have := hR _ _ (hr j xs[j] (List.getElem?_eq_getElem hj))
  rw [Nat.mul_one] at this
  have h3 : (inner.drop j).take 1 = [inner[j]] := by
    rw [List.drop_eq_getElem_cons h1]; rfl
  rw [h3] at this
  injection this with this
  rw [this, List.getElem_map]
/-- A row that was made stands beside what was there. -/
theorem Sat.row_made {e : Nat} {w0 w w' : World} {v : Value} {xs : List Int} {k : IntKind} {A : HP} {ok : Nat → Prop} (S : Sat w0 w A) (hb : Below w.heap.size w w') (h : (Kd.int k).R e w' w.heap.size ok v xs) : Sat w0 w' (row e 1 v xs.length (xs.map (Value.int k)) * A) := by
  obtain ⟨_, inner, ho, hr⟩ := h
  have e1 : inner = xs.map (Value.int k) := reps_scalar (fun x cs hx => hx) hr
  subst e1
  have S1 : Sat w0 w' A := S.below hb
  obtain ⟨hl, ho⟩ := ho
  rcases ho with ⟨rfl, h0⟩ | ⟨g, cap, cur, rfl, hg, hc, h1, h2, h3, h4⟩
  · have : xs = [] := List.eq_nil_of_length_eq_zero h0
    subst this
    exact S1.row_nil e 1
  · refine Sat.row_shut hl h1 h2 h3 h4 ?_
    obtain ⟨f, hf, hw⟩ := S.has
    refine S.env hb.os hb.tape hb.output hb.size ⟨fun b => if b = g then some (.cells cur e (0, 0)) else f b, ⟨fun b => if b = g then some (.cells cur e (0, 0)) else none, f, fun b => ?_, fun b => ?_, rfl, hf⟩, fun b o hbo => ?_⟩
    · by_cases eb : b = g
      · right
        cases hfb : f b with
        | none => rfl
        | some o => exact absurd (Array.getElem?_eq_some_iff.1 (hw b o hfb)).1 (by omega)
      · left; simp [eb]
    · by_cases eb : b = g
      · simp [eb]
      · simp [eb]
    · by_cases eb : b = g
      · simp [eb] at hbo; subst hbo; rw [eb]; exact hc
      · simp [eb] at hbo
        have := hw b o hbo
        exact (hb.block b (Array.getElem?_eq_some_iff.1 this).1).trans this
theorem readsInt {w : World} {g : Nat} {k : IntKind} {xs : List Int} (hl : xs.length ≤ 9223372036854775807) (h : ∀ j u, (xs.map (Value.int k))[j]? = some u → w.cell? ⟨g, j, none⟩ = some u) : Kd.C (Kd.int k) w (some ⟨g, 0, none⟩) xs.length xs := by
  refine ⟨rfl, hl, fun _ => ⟨_, rfl, fun j p hp => ⟨[.int k p], rfl, rfl, fun i u hi => ?_⟩⟩⟩
  have hi0 : i = 0 := by
    have := (List.getElem?_eq_some_iff.1 hi).1
    simp at this; exact this
  subst hi0
  simp only [List.getElem?_cons_zero, Option.some.injEq] at hi
  subst hi
  have := h j (.int k p) (by rw [List.getElem?_map, hp]; rfl)
  have e1 : (⟨g, 0, none⟩ : Addr).add (j * (Kd.int k).sz + 0) = ⟨g, j, none⟩ := by
    show (⟨g, 0, none⟩ : Addr).add (j * 1 + 0) = _
    unfold Addr.add
    by_cases hj : j = 0 <;> simp [hj]
  rw [e1]
  exact this
theorem Sat.row_ints {w0 w : World} {e : Nat} {v : Value} {n : Nat} {k : IntKind} {xs : List Int} {R : HP} (hn : n = xs.length) (S : Sat w0 w (row e 1 v n (xs.map (Value.int k)) * R)) :
    ∃ A c, v = .slice A xs.length c ∧ xs.length ≤ c ∧ Kd.C (Kd.int k) w A xs.length xs := by
  subst hn
  obtain ⟨hl, h⟩ := S.row_open
  rcases h with ⟨rfl, h0, hx, _⟩ | ⟨g, cap, cur, rfl, hn, hm, hs, ht, S1⟩
  · have : xs = [] := by cases xs with | nil => rfl | cons a b => cases hx
    subst this
    exact ⟨none, 0, rfl, Nat.le_refl _, readsNone _ _⟩
  · refine ⟨_, cap, rfl, hn, readsInt (by unfold maxLen at hm; omega) fun j u hj => ?_⟩
    obtain ⟨g', e1, hc⟩ := S.row_cells j u hj
    injection e1 with e1
    injection e1 with e1
    subst e1
    exact hc
theorem Sat.row_int_at {w0 w : World} {e : Nat} {A : Option Addr} {m c n : Nat} {k : IntKind} {xs : List Int} {R : HP} (hn : n = xs.length) (S : Sat w0 w (row e 1 (.slice A m c) n (xs.map (Value.int k)) * R)) : Kd.C (Kd.int k) w A xs.length xs := by
  obtain ⟨A', c', e1, _, h⟩ := S.row_ints hn
  injection e1 with e1 e2 e3
  subst e1
  exact h
end Go.Sl
/-! ### Mpi -/
namespace Go.Sl
open Go.RowKit Go.MapKept
set_option linter.unusedVariables false
set_option linter.unusedSectionVars false

/-- The map at b is gone through by the iterator at r; todo is still to come. -/
def ranging {κ : Type} (kv : κ → Value) (b r : Nat) (l todo : List (κ × Value)) : HP :=
  ex fun m : Array MapEntry × Nat × Array Nat => wh (Stamped m.1 m.2.1 ∧ (m.1.toList.map fun e => (e.key, e.val)).Perm (l.map fun p => (kv p.1, p.2)) ∧
    ((m.1.toList.filter fun e => !m.2.2.contains e.born).map fun e => (e.key, e.val)).Perm (todo.map fun p => (kv p.1, p.2)))
    (pts b (.map m.1 m.2.1) * pts r (.mapIter (some b) m.2.1 m.2.2 m.2.1))

theorem one_out {x : MapEntry} : ∀ {L : List MapEntry}, x ∈ L → (L.map (·.born)).Nodup → L.Perm (x :: L.filter fun y => !decide (y.born = x.born))
  | a :: L, hx, hn => by
    rw [List.map_cons, List.nodup_cons] at hn
    rcases List.mem_cons.1 hx with rfl | h
    · rw [List.filter_cons_of_neg (by simp), List.filter_eq_self.2 (fun y hy => by
        simp only [Bool.not_eq_true', decide_eq_false_iff_not]
        exact fun e => hn.1 (List.mem_map.2 ⟨y, hy, e⟩))]
    · have e : a.born ≠ x.born := fun e => hn.1 (List.mem_map.2 ⟨x, h, e.symm⟩)
      rw [List.filter_cons_of_pos (by simp [e])]
      exact ((one_out h hn.2).cons a).trans (List.Perm.swap _ _ _)
theorem one_out_key {κ : Type} [DecidableEq κ] {k : κ} {v : Value} : ∀ {L : List (κ × Value)}, (k, v) ∈ L → (L.map (·.1)).Nodup → L.Perm ((k, v) :: era L k)
  | a :: L, hx, hn => by
    rw [List.map_cons, List.nodup_cons] at hn
    unfold era
    rcases List.mem_cons.1 hx with rfl | h
    · rw [List.filter_cons_of_neg (by simp), List.filter_eq_self.2 (fun y hy => by
        simp only [Bool.not_eq_true', decide_eq_false_iff_not]
        exact fun e => hn.1 (List.mem_map.2 ⟨y, hy, e⟩))]
    · have e : a.1 ≠ k := fun e => hn.1 (List.mem_map.2 ⟨(k, v), h, e.symm⟩)
      rw [List.filter_cons_of_pos (by simp [e])]
      exact ((one_out_key h hn.2).cons a).trans (List.Perm.swap _ _ _)

section
variable {κ : Type} [DecidableEq κ] {kv : κ → Value} {w0 w : World} {b r : Nat} {l todo : List (κ × Value)} {R : HP} {P : Program} {t kt et : TypeId}
/-- 'range m'. -/
theorem Sat.run_range (S : Sat w0 w (gmap kv b l * R)) (ht : P.underlying t = some (.map kt et)) :
    ∃ w', (Instr.range t (.map (some b))).run P w = .ok (.pointer (some ⟨w.heap.size, 0, none⟩)) w' ∧ Sat w0 w' (ranging kv b w.heap.size l l * R) := by
  obtain ⟨es, clock, h1, h2, S1⟩ := S.gmap_open
  refine ⟨w.alloc (.mapIter (some b) clock #[] clock), ?_, ?_⟩
  · simp [Instr.range, run_underlying ht, MapKept.run_getObj_map S1.blk, Result.andThen]
  · unfold ranging
    refine Sat.mk_ex1 (es, clock, #[]) (Sat.mk_wh1 ⟨h1, h2, ?_⟩ ((S1.alloc _).cong (by ac_rfl)))
    rw [List.filter_eq_self.2 (fun e _ => by simp)]
    exact h2
/-- Back to a map. -/
theorem Sat.ranging_end (S : Sat w0 w (ranging kv b r l todo * R)) : Sat w0 w (gmap kv b l * R) := by
  unfold ranging at S
  obtain ⟨m, S⟩ := S.ex1
  obtain ⟨⟨h1, h2, _⟩, S⟩ := S.wh1
  rw [sep_assoc] at S
  exact Sat.gmap_shut h1 h2 (S.p2.drop1)
/-- The step: nothing is left, or an entry has come that was left. -/
theorem Sat.run_next (S : Sat w0 w (ranging kv b r l todo * R)) (K : ∀ x y, kv x = kv y → x = y) (ty : TypeId) :
    (todo = [] ∧ (Instr.next (.pointer (some ⟨r, 0, none⟩)) false ty).run P w = .ok (.tuple #[.bool false]) w) ∨
    ∃ k v w', (k, v) ∈ todo ∧ (Instr.next (.pointer (some ⟨r, 0, none⟩)) false ty).run P w = .ok (.tuple #[.bool true, kv k, v]) w' ∧
      (Instr.entry (.pointer (some ⟨r, 0, none⟩))).run P w' = .ok (.tuple #[kv k, v]) w' ∧ Sat w0 w' (ranging kv b r l (era todo k) * R) := by
  unfold ranging at S
  obtain ⟨⟨es, clock, seen⟩, S⟩ := S.ex1
  obtain ⟨⟨h1, h2, h3⟩, S⟩ := S.wh1
  simp only at h1 h2 h3
  rw [sep_assoc] at S
  have hst := (stamped_iff es clock).1 h1
  have eL : (leftOf es seen).toList = es.toList.filter fun e => !seen.contains e.born := by unfold leftOf; simp
  rcases run_next_at (P := P) w ty r b clock clock seen es clock S.p2.blk S.blk hst.1 (Nat.le_refl _) with ⟨h0, hrun⟩ | ⟨e, he, w1, hal, hrun⟩
  · refine .inl ⟨?_, hrun⟩
    have e0 : (leftOf es seen).toList = [] := by rw [Array.eq_empty_of_size_eq_zero h0]
    rw [← eL, e0] at h3
    exact List.eq_nil_of_length_eq_zero (by simpa using h3.length_eq.symm)
  · obtain ⟨hem, hes⟩ := mem_left he
    rw [eL] at he
    have hm : (e.key, e.val) ∈ todo.map fun p => (kv p.1, p.2) := h3.mem_iff.1 (List.mem_map.2 ⟨e, he, rfl⟩)
    obtain ⟨⟨k, v⟩, hkv, ek⟩ := List.mem_map.1 hm
    injection ek with ek ev
    have S1 : Sat w0 w1 (pts b (.map es clock) * (pts r (.mapIter (some b) clock seen clock) * R)) := by
      rcases hal with rfl | rfl
      · exact S
      · exact S.drew
    have S2 : Sat w0 (ChangeMaps.setBlock w1 r (.mapIter (some b) clock (seen.push e.born) clock)) (pts r (.mapIter (some b) clock (seen.push e.born) clock) * (pts b (.map es clock) * R)) := S1.p2.putObj
    refine .inr ⟨k, v, _, hkv, by rw [hrun, ← ek, ← ev], ?_, ?_⟩
    · rw [run_entry_at _ r b clock seen es clock e S2.blk S2.p2.blk hem hst.2.1, ← ek, ← ev]
    · unfold ranging
      refine Sat.mk_ex1 (es, clock, seen.push e.born) (Sat.mk_wh1 ⟨h1, h2, ?_⟩ (S2.cong (by ac_rfl)))
      have e2 : ((es.toList.filter fun x => !(seen.push e.born).contains x.born).map fun e => (e.key, e.val)).Perm ((era todo k).map fun p => (kv p.1, p.2)) := by
        have hin : ∀ x ∈ es.toList, (!(seen.push e.born).contains x.born) = (!seen.contains x.born && !decide (x.born = e.born)) := fun x hx => by
          rw [contains_push, Bool.not_or]
          congr 2
        rw [List.filter_congr hin]
        have p3 : (es.toList.filter fun x => !seen.contains x.born).Perm (e :: ((es.toList.filter fun x => !seen.contains x.born).filter fun x => !decide (x.born = e.born))) := one_out he (hst.2.1.sublist (List.filter_sublist.map _))
        have p4 : todo.Perm ((k, v) :: era todo k) := by
          have hn : (todo.map (·.1)).Nodup := by
            have hk := (h1.2.2.sublist ((List.filter_sublist (p := fun e => !seen.contains e.born)).map MapEntry.key))
            have q1 : (((es.toList.filter fun e => !seen.contains e.born).map MapEntry.key)).Perm ((todo.map (·.1)).map kv) := by
              have := h3.map (·.1)
              simpa [List.map_map, Function.comp_def] using this
            exact (List.pairwise_map.1 (q1.nodup_iff.1 hk)).imp fun h e => h (by rw [e])
          exact one_out_key hkv hn
        rw [List.filter_filter, show (fun x : MapEntry => !decide (x.born = e.born) && !seen.contains x.born) = fun x => (!seen.contains x.born && !decide (x.born = e.born)) from funext fun x => Bool.and_comm _ _] at p3
        have q := (p3.map fun e => (e.key, e.val)).symm.trans (h3.trans (p4.map fun p => (kv p.1, p.2)))
        simp only [List.map_cons] at q
        rw [show kv k = e.key from ek, show v = e.val from ev] at q
        exact q.cons_inv
      exact e2
end

section
variable {κ : Type} [DecidableEq κ] {kv : κ → Value} {w0 : World} {b r : Nat} {l todo : List (κ × Value)} {R : HP} {P : Program} (w : World) {ops : Array Oper} {rest : List Oper} {o : Oper} {a : Act} {Q : Exit → Act → World → Prop}
/-- 'range m', at the operation. -/
theorem wpList_range_sl (hg : o.guard = none) (m : Operand) (t : TypeId) (hop : o.op = Op.range t m) (k e : TypeId) (ht : P.underlying t = some (.map k e)) (hm : a.eval m = .map (some b)) (S : Sat w0 w (gmap kv b l * R))
    (hK : ∀ w' r, Sat w0 w' (ranging kv b r l l * R) → wpList P ops Q rest (a.put o.dst (.pointer (some ⟨r, 0, none⟩))) w') :
    wpList P ops Q (o :: rest) a w := by
  refine wpList_plain hg fun K' hK' => ?_
  obtain ⟨w', hrun, S'⟩ := S.run_range ht
  unfold Oper.wp
  simp [execOp, hop, hm, hrun, Result.andThen]
  exact hK' _ _ (hK w' _ S')
/-- The step, at the operation. -/
theorem wpList_next_sl (hg : o.guard = none) (it : Operand) (hop : o.op = Op.next it false) (K : ∀ x y, kv x = kv y → x = y) (hit : a.eval it = .pointer (some ⟨r, 0, none⟩)) (S : Sat w0 w (ranging kv b r l todo * R))
    (hDone : todo = [] → wpList P ops Q rest (a.put o.dst (.tuple #[.bool false])) w)
    (hMore : ∀ k v w', (k, v) ∈ todo → (Instr.entry (.pointer (some ⟨r, 0, none⟩))).run P w' = .ok (.tuple #[kv k, v]) w' → Sat w0 w' (ranging kv b r l (era todo k) * R) → wpList P ops Q rest (a.put o.dst (.tuple #[.bool true, kv k, v])) w') :
    wpList P ops Q (o :: rest) a w := by
  refine wpList_plain hg fun K' hK' => ?_
  unfold Oper.wp
  rcases S.run_next (P := P) K o.type with ⟨h0, hrun⟩ | ⟨k, v, w', hm, hrun, hen, S'⟩
  · simp [execOp, hop, hit, hrun, Result.andThen]
    exact hK' _ _ (hDone h0)
  · simp [execOp, hop, hit, hrun, Result.andThen]
    exact hK' _ _ (hMore k v w' hm hen S')
end
theorem Sat.ranging_left {κ : Type} [DecidableEq κ] {kv : κ → Value} {w0 w : World} {b r : Nat} {l todo : List (κ × Value)} {R : HP} (S : Sat w0 w (ranging kv b r l todo * R)) : w.rangeLeft b r = todo.length := by
  unfold ranging at S
  obtain ⟨⟨es, clock, seen⟩, S⟩ := S.ex1
  obtain ⟨⟨h1, h2, h3⟩, S⟩ := S.wh1
  rw [sep_assoc] at S
  have e1 := S.blk
  have e2 := S.p2.blk
  simp only at e1 e2 h3
  unfold World.rangeLeft
  rw [e1, e2]
  have := h3.length_eq
  simp only [List.length_map] at this
  rw [← this]
  unfold leftOf
  show (Array.filter (fun e => !seen.contains e.born) es).size = _
  rw [← Array.length_toList]
  simp
theorem era_lt {κ : Type} [DecidableEq κ] {l : List (κ × Value)} {k : κ} {v : Value} (h : (k, v) ∈ l) : (era l k).length < l.length := by
  unfold era
  exact List.length_filter_lt_length_iff_exists.2 ⟨(k, v), h, by simp⟩
end Go.Sl
/-! ### Jj -/
namespace Go.Sl
open Go.RowKit Go.Proofs Go.Proofs.YteakblblpiihpaaW.PrintWords Go.Proofs.Yteakblblpiihpaa.PZs
set_option linter.unusedVariables false
set_option linter.unusedSimpArgs false
set_option maxRecDepth 100000

theorem fkm : Try.prog.underlying 104 = some (.map 9 106) := Try.underlying104
theorem fks : Try.prog.underlying 9 = some .string := Try.underlying9
theorem fzero (w : World) : (zeroValue 106).run Try.prog w = .ok (.agg #[.slice none 0 0, .slice none 0 0]) w := by kernel_rfl
/-- The first lists, and so many members of the next one. -/
abbrev preJ (L : List (List Sc)) (i k : Nat) : List (List Sc) := L.take i ++ [(L.getD i []).take k]
theorem find_fresh {l : List Sc} {k : Nat} {x : Sc} (hn : (l.map (·.f0)).Nodup) (h : k < l.length) (hx : x = l[k]) : findS (l.take k) x.f0 = none := by
  unfold findS
  rw [Option.map_eq_none_iff, List.find?_eq_none]
  intro y hy
  obtain ⟨j, hj, rfl⟩ := List.mem_take_iff_getElem.1 hy
  simp only [decide_eq_true_eq]
  intro e
  have hj' : j < l.length := by omega
  have := (List.getElem_inj (xs := l.map (·.f0)) (h₀ := by simpa using hj') (h₁ := by simpa using h) hn).1 (by simpa [hx] using e)
  omega
/-- A run of append that is known. -/
structure AppJ (P : Program) (w : World) (t u ty : TypeId) (v y v' : Value) (w' : World) : Prop where
  run : (Builtin.append_ #[t, u] ty #[v, y]).run P w = .ok v' w'
theorem step_append_J {P : Program} {ops : Array Oper} {o : Oper} {a : Act} {w w' : World} {K : Act → World → Prop} {Q : Exit → Act → World → Prop} {E : Prop}
    (hg : o.guard = none) (s x : Operand) (t u : TypeId) (hop : o.op = .call { callee := .builtin .append, args := #[s, x], argTypes := #[t, u] }) {v y v' : Value} (hr : AppJ P w t u o.type v y v' w') (hs : a.eval s = v) (hx : a.eval x = y)
    (hK : K (a.put o.dst v') w') : if Region.wanted o (yielded ops a.tmps) = true then Oper.wp P o a w K Q else E := by
  have hw : Region.wanted o (yielded ops a.tmps) = true := by simp [Region.wanted, hg]
  have hr := hr.run
  rw [if_pos hw]
  unfold Oper.wp
  simp [execOp, hop, resolve, invoke, builtin, hs, hx, hr, Result.andThen]
  exact hK
theorem rI_appN {w0 w : World} {v : Value} {xs : List Int} {n : Nat} {x : Int} {b : Nat} {R : HP} (hn : xs.length = n) (hl : n < 1000000) (S : Sat w0 w (rI v xs * (pts b (.cells #[.int .i64 x] 2 (0, 0)) * R))) :
    ∃ g c w', (Builtin.append_ #[82, 82] 82 #[v, .slice (some ⟨b, 0, none⟩) 1 1]).run Try.prog w = .ok (.slice (some ⟨g, 0, none⟩) (n + 1) c) w' ∧ Sat w0 w' (rI (.slice (some ⟨g, 0, none⟩) (n + 1) c) (xs ++ [x]) * (pts b (.cells #[.int .i64 x] 2 (0, 0)) * R)) := by
  subst hn
  exact rI_app hl S
theorem prsM_len (ws : List Int) (m : ByteArray) : ∀ (L : List (List Sc)) (i : Nat), (prsM ws m i L).length ≤ L.length
  | [], i => by simp [prsM]
  | l :: L, i => by
    have := prsM_len ws m L (i + 1)
    simp only [prsM]
    cases findS l m with
    | none => simp only [List.length_cons]; omega
    | some s => simp only [List.length_cons]; omega
theorem cellsJ {w0 w' : World} {xb : Nat} {x : Sc} {u v : Value} {R : HP} (S : Sat w0 w' (pts (xb + 1) (.cells #[u, v] 106) * (pts xb (.cells #[.string x.f0, .int .i64 x.f1] 30) * R))) :
    w'.cell? ⟨xb, 0, none⟩ = some (.string x.f0) ∧ w'.cell? ⟨xb, 1, none⟩ = some (.int .i64 x.f1) ∧ w'.cell? ⟨xb + 1, 0, none⟩ = some u ∧ w'.cell? ⟨xb + 1, 1, none⟩ = some v := by
  obtain ⟨a0, a1, -⟩ := blk2 S.blk
  obtain ⟨b0, b1, -⟩ := blk2 S.p2.blk
  exact ⟨b0, b1, a0, a1⟩
/-- A run of a map's store that is known. -/
structure MupJ (P : Program) (w : World) (t : TypeId) (m k x : Value) (w' : World) : Prop where
  run : (Instr.mapUpdate t m k x).run P w = .ok () w'
theorem step_mup_J {P : Program} {ops : Array Oper} {o : Oper} {a : Act} {w w' : World} {K : Act → World → Prop} {Q : Exit → Act → World → Prop} {E : Prop} {t : TypeId} {m k x : Value}
    (hg : o.guard = none) (mo ko xo : Operand) (hop : o.op = .mapUpdate t mo ko xo) (hr : MupJ P w t m k x w') (hm : a.eval mo = m) (hk : a.eval ko = k) (hx : a.eval xo = x)
    (hK : K (a.put o.dst undef) w') : if Region.wanted o (yielded ops a.tmps) = true then Oper.wp P o a w K Q else E := by
  have hw : Region.wanted o (yielded ops a.tmps) = true := by simp [Region.wanted, hg]
  have hr := hr.run
  rw [if_pos hw]
  unfold Oper.wp
  simp [execOp, hop, hm, hk, hx, hr, Result.andThen]
  exact hK
/-- What was found of a member, put back with one more. -/
theorem leafJ {w0 w : World} {mb i k : Nat} {ws : List Int} {es : List En} {A : List (List Sc)} {li : List Sc} {x : Sc} {qs : List (Int × Int)} {wt : Int} {sv wv : Value} {F X R : HP} (HE : MetOk ws es (A ++ [li.take k])) (hqs : qs = getE es x.f0) (hnf : findS (li.take k) x.f0 = none) (htk : li.take (k + 1) = li.take k ++ [x]) (htl : A.length = i) (hwt : pw ws i = wt)
    (S : Sat w0 w (gmap Value.string mb (ins (entE es) x.f0 (.agg #[sv, wv])) * (rI sv (qs.map (·.1) ++ [x.f1]) * (rI wv (qs.map (·.2) ++ [wt]) * (star ((outE es x.f0).map En.rows) * (R * (F * X))))))) : ∃ es', MetOk ws es' (A ++ [li.take (k + 1)]) ∧ Sat w0 w (F * (X * (metJ mb es' * R))) := by
  subst hqs htl hwt
  rw [htk]
  refine ⟨_, met_step (sv := sv) (wv := wv) HE hnf, ?_⟩
  have e1 : (getE es x.f0).map (·.1) ++ [x.f1] = (getE es x.f0 ++ [(x.f1, pw ws A.length)]).map (·.1) := by simp
  have e2 : (getE es x.f0).map (·.2) ++ [pw ws A.length] = (getE es x.f0 ++ [(x.f1, pw ws A.length)]).map (·.2) := by simp
  rw [e1, e2] at S
  refine (Sat.met_in (R := R * (F * X)) (S.cong (by ac_rfl))).cong (by ac_rfl)
/-- An entry's rows, taken out; and put back. -/
theorem entry_open {w0 w : World} {es : List En} {e : En} {A B R : HP} (hn : (es.map (·.k)).Nodup) (he : e ∈ es) (S : Sat w0 w (A * (B * (star (es.map En.rows) * R)))) : Sat w0 w (rI e.sv (e.ps.map (·.1)) * (rI e.wv (e.ps.map (·.2)) * (star ((outE es e.k).map En.rows) * (A * (B * R))))) := by
  rw [star_perm ((outE_perm hn he).map En.rows), List.map_cons, star_cons] at S
  exact S.cong (by unfold En.rows; ac_rfl)
theorem entry_close {w0 w : World} {es : List En} {e : En} {sv wv : Value} {Z F A B R : HP} (hn : (es.map (·.k)).Nodup) (he : e ∈ es) (hs : e.sv = sv) (hw : e.wv = wv) (S : Sat w0 w (Z * (F * (rI sv (e.ps.map (·.1)) * (rI wv (e.ps.map (·.2)) * (star ((outE es e.k).map En.rows) * (A * (B * R)))))))) : Sat w0 w (B * (Z * (A * (star (es.map En.rows) * R)))) := by
  subst hs hw
  rw [star_perm ((outE_perm hn he).map En.rows), List.map_cons, star_cons]
  exact S.p2.drop1.cong (by unfold En.rows; ac_rfl)
theorem zip_ps : ∀ ps : List (Int × Int), (ps.map (·.1)).zip (ps.map (·.2)) = ps
  | [] => rfl
  | p :: ps => by rw [List.map_cons, List.map_cons, List.zip_cons_cons, zip_ps ps]
theorem joinedE {w0 w : World} {A B : Option Addr} {c d : Nat} {ps : List (Int × Int)} {how : Int} {R : HP} (hb : ps.length ≤ 1000000) (hf : ∀ p ∈ ps, fitsI p.1 = true ∧ fitsI p.2 = true) (S : Sat w0 w (rI (.slice A ps.length c) (ps.map (·.1)) * (rI (.slice B ps.length d) (ps.map (·.2)) * R))) :
    Calls Try.prog 56 #[.int .i64 how, .slice A ps.length c, .slice B ps.length d] w fun e w' => e = .returned (.tuple #[.int .i64 ((jnGo how 0 true ps).getD 0), .bool (jnGo how 0 true ps).isSome]) ∧ Below w.heap.size w w' := by
  have hA := Sat.row_int_at (e := 2) (xs := ps.map (·.1)) rfl S
  have hB := Sat.row_int_at (e := 2) (xs := ps.map (·.2)) rfl S.p2
  have := joinedC (c := c) (d := d) (how := how) hA hB (by rw [List.length_map, List.length_map]) (by rw [List.length_map]; exact hb) (fun x hx => by obtain ⟨p, hp, rfl⟩ := List.mem_map.1 hx; exact (hf p hp).1) (fun x hx => by obtain ⟨p, hp, rfl⟩ := List.mem_map.1 hx; exact (hf p hp).2)
  rw [zip_ps, List.length_map, List.length_map] at this
  exact this
set_option maxHeartbeats 32000000 in
/-- 'zset.Join'. -/
theorem zJoin {w0 w : World} {A2 A3 : Option Addr} {c2 c3 : Nat} {all : Bool} {how : Int} {ws : List Int} {L : List (List Sc)} {Bf : Nat → Option Addr} {df : Nat → Nat} {R : HP} (hL : L.length ≤ 1000) (hM : ∀ l ∈ L, l.length ≤ 100) (hs : ∀ l ∈ L, ∀ x ∈ l, fitsI x.f1 = true ∧ x.f0.size ≤ maxLen) (hu : ∀ l ∈ L, (l.map (·.f0)).Nodup) (hw : ∀ x ∈ ws, fitsI x = true)
    (h2 : ∀ Z w', Sat w0 w' (Z * R) → Kd.C (Kd.int .i64) w' A2 ws.length ws) (hc2 : ws.length ≤ c2) (h3 : ∀ Z w', Sat w0 w' (Z * R) → ∀ i (h : i < L.length), ∃ ad : Addr, A3 = some ad ∧ w'.cell? (ad.add i) = some (.slice (Bf i) L[i].length (df i)) ∧ Kd.C k30 w' (Bf i) L[i].length L[i]) (S : Sat w0 w R) :
    Calls Try.prog 35 #[.bool all, .int .i64 how, .slice A2 ws.length c2, .slice A3 L.length c3] w fun en w' => ∃ v, en = .returned (.tuple #[v, .int .i64 (if (joinF all how ws L L.flatten []).isSome then 0 else 13)]) ∧ Sat w0 w' (rS v ((joinF all how ws L L.flatten []).getD []) * R) := by
  obtain ⟨J, hJ⟩ : ∃ J, J = joinF all how ws L L.flatten [] := ⟨_, rfl⟩
  rw [← hJ]
  have HJ := Lib.hid hJ
  have HL := Lib.hid hL
  have HM := Lib.hid hM
  have HSX := Lib.hid hs
  have HU := Lib.hid hu
  have HWS := Lib.hid hw
  have H2 := Lib.hid h2
  have H3 := Lib.hid h3
  obtain ⟨mb, hmb⟩ : ∃ mb, mb = w.heap.size := ⟨_, rfl⟩
  have S1 := S.gmap_made (kv := Value.string)
  rw [← hmb] at S1
  have HS : Hid (Sat w0 _ (metJ mb [] * R)) := Lib.hid (S1.cong (by unfold metJ; simp only [List.map_nil, star_nil, mul_emp]; rfl))
  have HMB := Lib.hid hmb
  obtain ⟨er, her⟩ : ∃ er : Int, er = if J.isSome then 0 else 13 := ⟨_, rfl⟩
  rw [← her]
  have HER := Lib.hid her
  have hmm := @run_makeMap Try.prog
  clear hL hM hs hu hw h2 h3 hc2 hJ S S1 her hmb
  go_enter Try.func35, Try.ntmps35
  go_wp2_with fail
  rw [← HMB.out]
  clear HMB hmm
  go_loopw [25] (fun v25 wr => ∃ (i : Nat) (es : List En), v25 = .int .i64 i ∧ i ≤ L.length ∧ Hid (MetOk ws es (L.take i)) ∧ Hid (Sat w0 wr (metJ mb es * R))) (fun v25 _ => L.length - (RowKit.intOf v25).toNat)
  case atStart => exact ⟨0, [], rfl, by omega, Lib.hid (by rw [List.take_zero]; exact met_nil ws), HS⟩
  case round =>
    clear HS
    obtain ⟨i, es, rfl, hi, HE, HSi⟩ := hrel
    by_cases hlt : i < L.length
    · have hwi := wrap_upZ hlt (show L.length ≤ 9223372036854775807 by have := HL.out; omega)
      obtain ⟨ad, e1, x0, hB⟩ := H3.out _ _ HSi.out i hlt
      subst e1
      have hBX : ∀ Z w', Sat w0 w' (Z * R) → Kd.C k30 w' (Bf i) L[i].length L[i] := fun Z w' S => by
        obtain ⟨_, _, _, h⟩ := H3.out Z w' S i hlt
        exact h
      generalize Bf i = B at *
      generalize df i = d at *
      obtain ⟨li, hli⟩ : ∃ li, li = L[i] := ⟨_, rfl⟩
      have HBX : Hid (∀ Z w', Sat w0 w' (Z * R) → Kd.C k30 w' B li.length li) := Lib.hid (by rw [hli]; exact hBX)
      have HMI := Lib.hid (show li ∈ L by rw [hli]; exact List.getElem_mem hlt)
      rw [← hli] at x0
      have HTI : Hid (L.take (i + 1) = L.take i ++ [li]) := Lib.hid (by rw [hli]; exact (List.take_append_getElem hlt).symm)
      have HE2 : Hid (MetOk ws es (L.take i ++ [li.take 0])) := Lib.hid (by rw [List.take_zero]; exact met_next HE.out)
      have HTL : Hid ((L.take i).length = i) := Lib.hid (by rw [List.length_take]; omega)
      obtain ⟨wt, hwt⟩ : ∃ wt, wt = pw ws i := ⟨_, rfl⟩
      have HWT := Lib.hid hwt
      have hex : ∃ K : Prop, K := ⟨True, trivial⟩
      clear hli hwt hex hB hBX
      by_cases hwl : i < ws.length
      · obtain ⟨ae, e2, y0⟩ := Kd.at_int (H2.out _ _ HSi.out) (i : Int) (by omega) (by omega)
        subst e2
        rw [Int.toNat_natCast] at y0
        have hpw : rd ws (i : Int) = wt := by rw [HWT.out]; unfold pw; rw [if_pos hwl]
        rw [hpw] at y0
        have hdw : decide ((i : Int) < (ws.length : Int)) = true := by simp; omega
        have hdn : decide (i < ws.length) = true := decide_eq_true hwl
        clear hpw
        go_wp2_with fail
        go_loopw [40] (fun v40 wy => ∃ (k : Nat) (es : List En), v40 = .int .i64 k ∧ k ≤ li.length ∧ Hid (MetOk ws es (L.take i ++ [li.take k])) ∧ Hid (Sat w0 wy (metJ mb es * R))) (fun v40 _ => li.length - (RowKit.intOf v40).toNat)
        case atStart => exact ⟨0, es, rfl, by omega, HE2, HSi⟩
        case round =>
          clear HE2 HSi HE
          obtain ⟨k, es, rfl, hk, HE, HSi⟩ := hrel
          by_cases hk2 : k < li.length
          · have hwk := wrap_upZ hk2 (show li.length ≤ 9223372036854775807 by have := HM.out _ HMI.out; omega)
            obtain ⟨ae, e2, z0, z1⟩ := argZ (HBX.out _ _ HSi.out) (Below.refl _ _) hk2
            subst e2
            obtain ⟨x, hx⟩ : ∃ x, x = li[k] := ⟨_, rfl⟩
            rw [← hx] at z0 z1
            have HNF : Hid (findS (li.take k) x.f0 = none) := Lib.hid (find_fresh (HU.out _ HMI.out) hk2 hx)
            have HTK : Hid (li.take (k + 1) = li.take k ++ [x]) := Lib.hid (by rw [hx]; exact (List.take_append_getElem hk2).symm)
            have HXS : Hid (x.f0.size ≤ maxLen) := Lib.hid (by rw [hx]; exact (HSX.out _ HMI.out _ (List.getElem_mem hk2)).2)
            clear hx
            obtain ⟨sv, wv, hlk, SO⟩ := HSi.out.met_out (m := x.f0) HE.out.nd
            obtain ⟨xb, hxb⟩ : ∃ xb, xb = wr.heap.size := ⟨_, rfl⟩
            obtain ⟨qs, hqs⟩ : ∃ qs, qs = getE es x.f0 := ⟨_, rfl⟩
            rw [← hqs] at SO
            obtain ⟨As, cs, hAs⟩ := rI_slice SO
            obtain ⟨Aw, cw, hAw⟩ := rI_slice SO.p2
            rw [List.length_map] at hAs hAw
            subst hAs hAw
            have HQS := Lib.hid hqs
            clear hqs
            have SO1 := SO.alloc (.cells #[.string x.f0, .int .i64 x.f1] 30)
            have SA := SO1.alloc (.cells #[.slice As qs.length cs, .slice Aw qs.length cw] 106)
            simp only [World.size_alloc] at SA
            rw [← hxb] at SA
            have hl104 := SO1.p4.run_lookup keys_string fkm fks fzero false x.f0
            rw [hlk] at hl104
            have HSA := Lib.hid SA
            have HXB := Lib.hid hxb
            clear SO SO1 SA hxb hlk
            go_upto_region 12 with (fail)
            rw [← HXB.out]
            refine gen_w HSA.out ?_
            clear HSA HXB
            intro w5 SP
            have HP := Lib.hid SP
            have HQL : Hid (qs.length < 1000000) := Lib.hid (by rw [HQS.out, HE.out.get]; have h1 := prsM_len ws x.f0 (L.take i ++ [li.take k]) 0; have h2 := HL.out; rw [List.length_append, List.length_take] at h1; simp only [List.length_cons, List.length_nil] at h1; omega)
            clear SP
            -- BEGIN J wt
            refine wp_region_noPanic ?_
            refine wp_region_held_drew (S := (fun w' => w'.cell? ⟨xb, 0, none⟩ = some (.string x.f0) ∧ w'.cell? ⟨xb, 1, none⟩ = some (.int .i64 x.f1) ∧ w'.cell? ⟨xb + 1, 0, none⟩ = some (.slice As qs.length cs) ∧ w'.cell? ⟨xb + 1, 1, none⟩ = some (.slice Aw qs.length cw))) (by kernel_rfl) ?_ (fun hHeld => ?_)
            · exact cellsJ HP.out.drew
            refine wpAnyH_take (i := 0) (v := ?_) (by simp only [List.getElem?_toArray, List.getElem?_cons_succ, List.getElem?_cons_zero]; rfl) (by kernel_rfl) (by kernel_rfl) (by kernel_rfl) (fun _ _ _ h => h) (Or.inl ⟨by rfl, ?_⟩) hHeld ?_
            rotate_left
            · (intro w hSw; (try dsimp only at hSw); go_simp; try with_reducible rfl)
            try simp only [Act.put, List.setIfInBounds_toArray, List.set_cons_zero, List.set_cons_succ]
            refine wpAnyH_take (i := 1) (v := ?_) (by simp only [List.getElem?_toArray, List.getElem?_cons_succ, List.getElem?_cons_zero]; rfl) (by kernel_rfl) (by kernel_rfl) (by kernel_rfl) (fun _ _ _ h => h) (Or.inl ⟨by rfl, ?_⟩) hHeld ?_
            rotate_left
            · (intro w hSw; (try dsimp only at hSw); go_simp; try with_reducible rfl)
            try simp only [Act.put, List.setIfInBounds_toArray, List.set_cons_zero, List.set_cons_succ]
            refine wpAnyH_take (i := 2) (v := ?_) (by simp only [List.getElem?_toArray, List.getElem?_cons_succ, List.getElem?_cons_zero]; rfl) (by kernel_rfl) (by kernel_rfl) (by kernel_rfl) (fun _ _ _ h => h) (Or.inl ⟨by rfl, ?_⟩) hHeld ?_
            rotate_left
            · (intro w hSw; (try dsimp only at hSw); go_simp; try with_reducible rfl)
            try simp only [Act.put, List.setIfInBounds_toArray, List.set_cons_zero, List.set_cons_succ]
            refine wpAnyH_take (i := 3) (v := ?_) (by simp only [List.getElem?_toArray, List.getElem?_cons_succ, List.getElem?_cons_zero]; rfl) (by kernel_rfl) (by kernel_rfl) (by kernel_rfl) (fun _ _ _ h => h) (Or.inl ⟨by rfl, ?_⟩) hHeld ?_
            rotate_left
            · (intro w hSw; (try dsimp only at hSw); go_simp; try with_reducible rfl)
            try simp only [Act.put, List.setIfInBounds_toArray, List.set_cons_zero, List.set_cons_succ]
            refine wpAnyH_take (i := 4) (v := ?_) (by simp only [List.getElem?_toArray, List.getElem?_cons_succ, List.getElem?_cons_zero]; rfl) (by kernel_rfl) (by kernel_rfl) (by kernel_rfl) (fun _ _ _ h => h) (Or.inl ⟨by rfl, ?_⟩) hHeld ?_
            rotate_left
            · (intro w hSw; (try dsimp only at hSw); go_simp; try with_reducible rfl)
            try simp only [Act.put, List.setIfInBounds_toArray, List.set_cons_zero, List.set_cons_succ]
            refine wpAnyH_take (i := 5) (v := ?_) (by simp only [List.getElem?_toArray, List.getElem?_cons_succ, List.getElem?_cons_zero]; rfl) (by kernel_rfl) (by kernel_rfl) (by kernel_rfl) (fun _ _ _ h => h) (Or.inl ⟨by rfl, ?_⟩) hHeld ?_
            rotate_left
            · (intro w hSw; (try dsimp only at hSw); go_simp; try with_reducible rfl)
            try simp only [Act.put, List.setIfInBounds_toArray, List.set_cons_zero, List.set_cons_succ]
            refine wpAnyH_take (i := 6) (v := ?_) (by simp only [List.getElem?_toArray, List.getElem?_cons_succ, List.getElem?_cons_zero]; rfl) (by kernel_rfl) (by kernel_rfl) (by kernel_rfl) (fun _ _ _ h => h) (Or.inl ⟨by rfl, ?_⟩) hHeld ?_
            rotate_left
            · (intro w hSw; (try dsimp only at hSw); go_simp; try with_reducible rfl)
            try simp only [Act.put, List.setIfInBounds_toArray, List.set_cons_zero, List.set_cons_succ]
            refine wpAnyH_take (i := 9) (v := ?_) (by simp only [List.getElem?_toArray, List.getElem?_cons_succ, List.getElem?_cons_zero]; rfl) (by kernel_rfl) (by kernel_rfl) (by kernel_rfl) (fun _ _ _ h => h) (Or.inl ⟨by rfl, ?_⟩) hHeld ?_
            rotate_left
            · (intro w hSw; (try dsimp only at hSw); go_simp; try with_reducible rfl)
            try simp only [Act.put, List.setIfInBounds_toArray, List.set_cons_zero, List.set_cons_succ]
            refine wpAnyH_take (i := 10) (v := ?_) (by simp only [List.getElem?_toArray, List.getElem?_cons_succ, List.getElem?_cons_zero]; rfl) (by kernel_rfl) (by kernel_rfl) (by kernel_rfl) (fun _ _ _ h => h) (Or.inl ⟨by rfl, ?_⟩) hHeld ?_
            rotate_left
            · (intro w hSw; (try dsimp only at hSw); go_simp; try with_reducible rfl)
            try simp only [Act.put, List.setIfInBounds_toArray, List.set_cons_zero, List.set_cons_succ]
            refine wpAnyH_take (i := 11) (v := ?_) (by simp only [List.getElem?_toArray, List.getElem?_cons_succ, List.getElem?_cons_zero]; rfl) (by kernel_rfl) (by kernel_rfl) (by kernel_rfl) (fun _ _ _ h => h) (Or.inl ⟨by rfl, ?_⟩) hHeld ?_
            rotate_left
            · (intro w hSw; (try dsimp only at hSw); go_simp; try with_reducible rfl)
            try simp only [Act.put, List.setIfInBounds_toArray, List.set_cons_zero, List.set_cons_succ]
            have HPD := Lib.hid HP.out.drew
            refine wpAnyH_ready (rs := [7, 12]) (by kernel_rfl) (by simp) ?_
            refine AllReadyH.cons rfl (fun K hK => ?_) ?_
            · go_simp
              have HJ1 : Hid (Sat w0 (w5.drew.alloc (.cells #[.int .i64 (x.f1)] 2)) (pts (xb + 1) (.cells #[.slice As qs.length cs, .slice Aw qs.length cw] 106) * (pts xb (.cells #[.string x.f0, .int .i64 x.f1] 30) * (rI (.slice As qs.length cs) (qs.map (·.1)) * (rI (.slice Aw qs.length cw) (qs.map (·.2)) * (pts w5.heap.size (.cells #[.int .i64 (x.f1)] 2 (0, 0)) * (gmap Value.string mb (entE es) * (star ((outE es x.f0).map En.rows) * (R))))))))) := Lib.hid (by have T := HPD.out.alloc (.cells #[.int .i64 (x.f1)] 2); (try simp only [World.size_alloc] at T); exact (show Sat w0 (w5.drew.alloc (.cells #[.int .i64 (x.f1)] 2)) (pts w5.heap.size (.cells #[.int .i64 (x.f1)] 2 (0, 0)) * (pts (xb + 1) (.cells #[.slice As qs.length cs, .slice Aw qs.length cw] 106) * (pts xb (.cells #[.string x.f0, .int .i64 x.f1] 30) * (rI (.slice As qs.length cs) (qs.map (·.1)) * (rI (.slice Aw qs.length cw) (qs.map (·.2)) * (gmap Value.string mb (entE es) * (star ((outE es x.f0).map En.rows) * (R)))))))) from T).cong (by ac_rfl))
              refine hK.out _ _ ?_ (fun hHeld => ?_)
              · exact cellsJ HJ1.out
              clear hK K
              try simp only [Act.put, List.setIfInBounds_toArray, List.set_cons_zero, List.set_cons_succ]
              refine wpAnyH_ready (rs := [8, 12]) (by kernel_rfl) (by simp) ?_
              refine AllReadyH.cons rfl (fun K hK => ?_) ?_
              · obtain ⟨gg2, cc2, ww2, hr2, SS2⟩ := rI_appN (x := x.f1) (by simp : _ = qs.length) HQL.out (HJ1.out.cong (by ac_rfl : _ = rI (.slice As qs.length cs) (qs.map (·.1)) * (pts w5.heap.size (.cells #[.int .i64 (x.f1)] 2 (0, 0)) * (pts (xb + 1) (.cells #[.slice As qs.length cs, .slice Aw qs.length cw] 106) * (pts xb (.cells #[.string x.f0, .int .i64 x.f1] 30) * (rI (.slice Aw qs.length cw) (qs.map (·.2)) * (gmap Value.string mb (entE es) * (star ((outE es x.f0).map En.rows) * (R)))))))))
                have HJ2 : Hid (Sat w0 ww2 (pts (xb + 1) (.cells #[.slice As qs.length cs, .slice Aw qs.length cw] 106) * (pts xb (.cells #[.string x.f0, .int .i64 x.f1] 30) * (rI (.slice (some ⟨gg2, 0, none⟩) (qs.length + 1) cc2) (qs.map (·.1) ++ [x.f1]) * (rI (.slice Aw qs.length cw) (qs.map (·.2)) * (gmap Value.string mb (entE es) * (star ((outE es x.f0).map En.rows) * (R)))))))) := Lib.hid (SS2.p2.drop1.cong (by ac_rfl))
                clear SS2
                refine step_append_J (by rfl) _ _ _ _ (by rfl) (AppJ.mk hr2) (by rfl) (by rfl) ?_
                refine hK.out _ _ ?_ (fun hHeld => ?_)
                · exact cellsJ HJ2.out
                clear hK K
                try simp only [Act.put, List.setIfInBounds_toArray, List.set_cons_zero, List.set_cons_succ]
                refine wpAnyH_ready (rs := [12]) (by kernel_rfl) (by simp) ?_
                refine AllReadyH.cons rfl (fun K hK => ?_) AllReadyH.nil
                go_simp
                have HJ3 : Hid (Sat w0 (ww2.alloc (.cells #[.int .i64 (wt)] 2)) (pts (xb + 1) (.cells #[.slice As qs.length cs, .slice Aw qs.length cw] 106) * (pts xb (.cells #[.string x.f0, .int .i64 x.f1] 30) * (rI (.slice (some ⟨gg2, 0, none⟩) (qs.length + 1) cc2) (qs.map (·.1) ++ [x.f1]) * (rI (.slice Aw qs.length cw) (qs.map (·.2)) * (pts ww2.heap.size (.cells #[.int .i64 (wt)] 2 (0, 0)) * (gmap Value.string mb (entE es) * (star ((outE es x.f0).map En.rows) * (R))))))))) := Lib.hid (by have T := HJ2.out.alloc (.cells #[.int .i64 (wt)] 2); (try simp only [World.size_alloc] at T); exact (show Sat w0 (ww2.alloc (.cells #[.int .i64 (wt)] 2)) (pts ww2.heap.size (.cells #[.int .i64 (wt)] 2 (0, 0)) * (pts (xb + 1) (.cells #[.slice As qs.length cs, .slice Aw qs.length cw] 106) * (pts xb (.cells #[.string x.f0, .int .i64 x.f1] 30) * (rI (.slice (some ⟨gg2, 0, none⟩) (qs.length + 1) cc2) (qs.map (·.1) ++ [x.f1]) * (rI (.slice Aw qs.length cw) (qs.map (·.2)) * (gmap Value.string mb (entE es) * (star ((outE es x.f0).map En.rows) * (R)))))))) from T).cong (by ac_rfl))
                refine hK.out _ _ ?_ (fun hHeld => ?_)
                · exact cellsJ HJ3.out
                clear hK K
                try simp only [Act.put, List.setIfInBounds_toArray, List.set_cons_zero, List.set_cons_succ]
                refine wpAnyH_ready (rs := [13]) (by kernel_rfl) (by simp) ?_
                refine AllReadyH.cons rfl (fun K hK => ?_) AllReadyH.nil
                obtain ⟨gg4, cc4, ww4, hr4, SS4⟩ := rI_appN (x := wt) (by simp : _ = qs.length) HQL.out (HJ3.out.cong (by ac_rfl : _ = rI (.slice Aw qs.length cw) (qs.map (·.2)) * (pts ww2.heap.size (.cells #[.int .i64 (wt)] 2 (0, 0)) * (pts (xb + 1) (.cells #[.slice As qs.length cs, .slice Aw qs.length cw] 106) * (pts xb (.cells #[.string x.f0, .int .i64 x.f1] 30) * (rI (.slice (some ⟨gg2, 0, none⟩) (qs.length + 1) cc2) (qs.map (·.1) ++ [x.f1]) * (gmap Value.string mb (entE es) * (star ((outE es x.f0).map En.rows) * (R)))))))))
                have HJ4 : Hid (Sat w0 ww4 (pts (xb + 1) (.cells #[.slice As qs.length cs, .slice Aw qs.length cw] 106) * (pts xb (.cells #[.string x.f0, .int .i64 x.f1] 30) * (rI (.slice (some ⟨gg2, 0, none⟩) (qs.length + 1) cc2) (qs.map (·.1) ++ [x.f1]) * (rI (.slice (some ⟨gg4, 0, none⟩) (qs.length + 1) cc4) (qs.map (·.2) ++ [wt]) * (gmap Value.string mb (entE es) * (star ((outE es x.f0).map En.rows) * (R)))))))) := Lib.hid (SS4.p2.drop1.cong (by ac_rfl))
                clear SS4
                refine step_append_J (by rfl) _ _ _ _ (by rfl) (AppJ.mk hr4) (by rfl) (by rfl) ?_
                refine hK.out _ _ ?_ (fun hHeld => ?_)
                · exact cellsJ HJ4.out
                clear hK K
                try simp only [Act.put, List.setIfInBounds_toArray, List.set_cons_zero, List.set_cons_succ]
                refine wpAnyH_take (i := 14) (v := ?_) (by simp only [List.getElem?_toArray, List.getElem?_cons_succ, List.getElem?_cons_zero]; rfl) (by kernel_rfl) (by kernel_rfl) (by kernel_rfl) (fun _ _ _ h => h) (Or.inl ⟨by rfl, ?_⟩) hHeld ?_
                rotate_left
                · (intro w hSw; (try dsimp only at hSw); go_simp; try with_reducible rfl)
                try simp only [Act.put, List.setIfInBounds_toArray, List.set_cons_zero, List.set_cons_succ]
                obtain ⟨wm, hu, SM⟩ := (HJ4.out.cong (by ac_rfl : _ = gmap Value.string mb (entE es) * (rI (.slice (some ⟨gg2, 0, none⟩) (qs.length + 1) cc2) (qs.map (·.1) ++ [x.f1]) * (rI (.slice (some ⟨gg4, 0, none⟩) (qs.length + 1) cc4) (qs.map (·.2) ++ [wt]) * (star ((outE es x.f0).map En.rows) * (R * (pts (xb + 1) (.cells #[.slice As qs.length cs, .slice Aw qs.length cw] 106) * (pts xb (.cells #[.string x.f0, .int .i64 x.f1] 30))))))))).run_mapUpdate keys_string fkm fks x.f0 (.agg #[(.slice (some ⟨gg2, 0, none⟩) (qs.length + 1) cc2), (.slice (some ⟨gg4, 0, none⟩) (qs.length + 1) cc4)])
                have HSM : Hid (∃ es', MetOk ws es' (L.take i ++ [li.take (k + 1)]) ∧ Sat w0 wm (pts (xb + 1) (.cells #[.slice As qs.length cs, .slice Aw qs.length cw] 106) * (pts xb (.cells #[.string x.f0, .int .i64 x.f1] 30) * (metJ mb es' * R)))) := Lib.hid (leafJ HE.out HQS.out HNF.out HTK.out HTL.out (HWT.out.symm) SM)
                clear SM
                refine wpAnyH_ready (rs := [15]) (by kernel_rfl) (by simp) ?_
                refine AllReadyH.cons rfl (fun K hK => ?_) AllReadyH.nil
                refine step_mup_J (by rfl) _ _ _ (by rfl) (MupJ.mk hu) (by rfl) (by rfl) (by rfl) ?_
                refine hK.out _ _ ?_ (fun hHeld => ?_)
                · obtain ⟨_, _, S⟩ := HSM.out; exact cellsJ S
                clear hK K
                try simp only [Act.put, List.setIfInBounds_toArray, List.set_cons_zero, List.set_cons_succ]
                refine wpAnyH_done (by kernel_rfl) ?_ _
                refine NoPanic.normal ?_
                obtain ⟨es', HE', HS'⟩ := HSM.out
                go_wp2_with fail
                go_roundw
                case rel => exact ⟨k + 1, es', by rw [hwk], by omega, Lib.hid HE', Lib.hid HS'.drop1.drop1⟩
                case measure => rw [hwk]; simp only [RowKit.intOf, Int.toNat_natCast]; omega
              refine AllReadyH.cons rfl (fun K hK => ?_) AllReadyH.nil
              go_simp
              have HJ5 : Hid (Sat w0 ((w5.drew.alloc (.cells #[.int .i64 (x.f1)] 2)).alloc (.cells #[.int .i64 (wt)] 2)) (pts (xb + 1) (.cells #[.slice As qs.length cs, .slice Aw qs.length cw] 106) * (pts xb (.cells #[.string x.f0, .int .i64 x.f1] 30) * (rI (.slice As qs.length cs) (qs.map (·.1)) * (rI (.slice Aw qs.length cw) (qs.map (·.2)) * (pts w5.heap.size (.cells #[.int .i64 (x.f1)] 2 (0, 0)) * (pts (w5.heap.size + 1) (.cells #[.int .i64 (wt)] 2 (0, 0)) * (gmap Value.string mb (entE es) * (star ((outE es x.f0).map En.rows) * (R)))))))))) := Lib.hid (by have T := HJ1.out.alloc (.cells #[.int .i64 (wt)] 2); (try simp only [World.size_alloc] at T); exact (show Sat w0 ((w5.drew.alloc (.cells #[.int .i64 (x.f1)] 2)).alloc (.cells #[.int .i64 (wt)] 2)) (pts (w5.heap.size + 1) (.cells #[.int .i64 (wt)] 2 (0, 0)) * (pts (xb + 1) (.cells #[.slice As qs.length cs, .slice Aw qs.length cw] 106) * (pts xb (.cells #[.string x.f0, .int .i64 x.f1] 30) * (rI (.slice As qs.length cs) (qs.map (·.1)) * (rI (.slice Aw qs.length cw) (qs.map (·.2)) * (pts w5.heap.size (.cells #[.int .i64 (x.f1)] 2 (0, 0)) * (gmap Value.string mb (entE es) * (star ((outE es x.f0).map En.rows) * (R))))))))) from T).cong (by ac_rfl))
              refine hK.out _ _ ?_ (fun hHeld => ?_)
              · exact cellsJ HJ5.out
              clear hK K
              try simp only [Act.put, List.setIfInBounds_toArray, List.set_cons_zero, List.set_cons_succ]
              refine wpAnyH_ready (rs := [8]) (by kernel_rfl) (by simp) ?_
              refine AllReadyH.cons rfl (fun K hK => ?_) AllReadyH.nil
              obtain ⟨gg6, cc6, ww6, hr6, SS6⟩ := rI_appN (x := x.f1) (by simp : _ = qs.length) HQL.out (HJ5.out.cong (by ac_rfl : _ = rI (.slice As qs.length cs) (qs.map (·.1)) * (pts w5.heap.size (.cells #[.int .i64 (x.f1)] 2 (0, 0)) * (pts (xb + 1) (.cells #[.slice As qs.length cs, .slice Aw qs.length cw] 106) * (pts xb (.cells #[.string x.f0, .int .i64 x.f1] 30) * (rI (.slice Aw qs.length cw) (qs.map (·.2)) * (pts (w5.heap.size + 1) (.cells #[.int .i64 (wt)] 2 (0, 0)) * (gmap Value.string mb (entE es) * (star ((outE es x.f0).map En.rows) * (R))))))))))
              have HJ6 : Hid (Sat w0 ww6 (pts (xb + 1) (.cells #[.slice As qs.length cs, .slice Aw qs.length cw] 106) * (pts xb (.cells #[.string x.f0, .int .i64 x.f1] 30) * (rI (.slice (some ⟨gg6, 0, none⟩) (qs.length + 1) cc6) (qs.map (·.1) ++ [x.f1]) * (rI (.slice Aw qs.length cw) (qs.map (·.2)) * (pts (w5.heap.size + 1) (.cells #[.int .i64 (wt)] 2 (0, 0)) * (gmap Value.string mb (entE es) * (star ((outE es x.f0).map En.rows) * (R))))))))) := Lib.hid (SS6.p2.drop1.cong (by ac_rfl))
              clear SS6
              refine step_append_J (by rfl) _ _ _ _ (by rfl) (AppJ.mk hr6) (by rfl) (by rfl) ?_
              refine hK.out _ _ ?_ (fun hHeld => ?_)
              · exact cellsJ HJ6.out
              clear hK K
              try simp only [Act.put, List.setIfInBounds_toArray, List.set_cons_zero, List.set_cons_succ]
              refine wpAnyH_ready (rs := [13]) (by kernel_rfl) (by simp) ?_
              refine AllReadyH.cons rfl (fun K hK => ?_) AllReadyH.nil
              obtain ⟨gg7, cc7, ww7, hr7, SS7⟩ := rI_appN (x := wt) (by simp : _ = qs.length) HQL.out (HJ6.out.cong (by ac_rfl : _ = rI (.slice Aw qs.length cw) (qs.map (·.2)) * (pts (w5.heap.size + 1) (.cells #[.int .i64 (wt)] 2 (0, 0)) * (pts (xb + 1) (.cells #[.slice As qs.length cs, .slice Aw qs.length cw] 106) * (pts xb (.cells #[.string x.f0, .int .i64 x.f1] 30) * (rI (.slice (some ⟨gg6, 0, none⟩) (qs.length + 1) cc6) (qs.map (·.1) ++ [x.f1]) * (gmap Value.string mb (entE es) * (star ((outE es x.f0).map En.rows) * (R)))))))))
              have HJ7 : Hid (Sat w0 ww7 (pts (xb + 1) (.cells #[.slice As qs.length cs, .slice Aw qs.length cw] 106) * (pts xb (.cells #[.string x.f0, .int .i64 x.f1] 30) * (rI (.slice (some ⟨gg6, 0, none⟩) (qs.length + 1) cc6) (qs.map (·.1) ++ [x.f1]) * (rI (.slice (some ⟨gg7, 0, none⟩) (qs.length + 1) cc7) (qs.map (·.2) ++ [wt]) * (gmap Value.string mb (entE es) * (star ((outE es x.f0).map En.rows) * (R)))))))) := Lib.hid (SS7.p2.drop1.cong (by ac_rfl))
              clear SS7
              refine step_append_J (by rfl) _ _ _ _ (by rfl) (AppJ.mk hr7) (by rfl) (by rfl) ?_
              refine hK.out _ _ ?_ (fun hHeld => ?_)
              · exact cellsJ HJ7.out
              clear hK K
              try simp only [Act.put, List.setIfInBounds_toArray, List.set_cons_zero, List.set_cons_succ]
              refine wpAnyH_take (i := 14) (v := ?_) (by simp only [List.getElem?_toArray, List.getElem?_cons_succ, List.getElem?_cons_zero]; rfl) (by kernel_rfl) (by kernel_rfl) (by kernel_rfl) (fun _ _ _ h => h) (Or.inl ⟨by rfl, ?_⟩) hHeld ?_
              rotate_left
              · (intro w hSw; (try dsimp only at hSw); go_simp; try with_reducible rfl)
              try simp only [Act.put, List.setIfInBounds_toArray, List.set_cons_zero, List.set_cons_succ]
              obtain ⟨wm, hu, SM⟩ := (HJ7.out.cong (by ac_rfl : _ = gmap Value.string mb (entE es) * (rI (.slice (some ⟨gg6, 0, none⟩) (qs.length + 1) cc6) (qs.map (·.1) ++ [x.f1]) * (rI (.slice (some ⟨gg7, 0, none⟩) (qs.length + 1) cc7) (qs.map (·.2) ++ [wt]) * (star ((outE es x.f0).map En.rows) * (R * (pts (xb + 1) (.cells #[.slice As qs.length cs, .slice Aw qs.length cw] 106) * (pts xb (.cells #[.string x.f0, .int .i64 x.f1] 30))))))))).run_mapUpdate keys_string fkm fks x.f0 (.agg #[(.slice (some ⟨gg6, 0, none⟩) (qs.length + 1) cc6), (.slice (some ⟨gg7, 0, none⟩) (qs.length + 1) cc7)])
              have HSM : Hid (∃ es', MetOk ws es' (L.take i ++ [li.take (k + 1)]) ∧ Sat w0 wm (pts (xb + 1) (.cells #[.slice As qs.length cs, .slice Aw qs.length cw] 106) * (pts xb (.cells #[.string x.f0, .int .i64 x.f1] 30) * (metJ mb es' * R)))) := Lib.hid (leafJ HE.out HQS.out HNF.out HTK.out HTL.out (HWT.out.symm) SM)
              clear SM
              refine wpAnyH_ready (rs := [15]) (by kernel_rfl) (by simp) ?_
              refine AllReadyH.cons rfl (fun K hK => ?_) AllReadyH.nil
              refine step_mup_J (by rfl) _ _ _ (by rfl) (MupJ.mk hu) (by rfl) (by rfl) (by rfl) ?_
              refine hK.out _ _ ?_ (fun hHeld => ?_)
              · obtain ⟨_, _, S⟩ := HSM.out; exact cellsJ S
              clear hK K
              try simp only [Act.put, List.setIfInBounds_toArray, List.set_cons_zero, List.set_cons_succ]
              refine wpAnyH_done (by kernel_rfl) ?_ _
              refine NoPanic.normal ?_
              obtain ⟨es', HE', HS'⟩ := HSM.out
              go_wp2_with fail
              go_roundw
              case rel => exact ⟨k + 1, es', by rw [hwk], by omega, Lib.hid HE', Lib.hid HS'.drop1.drop1⟩
              case measure => rw [hwk]; simp only [RowKit.intOf, Int.toNat_natCast]; omega
            refine AllReadyH.cons rfl (fun K hK => ?_) AllReadyH.nil
            go_simp
            have HJ8 : Hid (Sat w0 (w5.drew.alloc (.cells #[.int .i64 (wt)] 2)) (pts (xb + 1) (.cells #[.slice As qs.length cs, .slice Aw qs.length cw] 106) * (pts xb (.cells #[.string x.f0, .int .i64 x.f1] 30) * (rI (.slice As qs.length cs) (qs.map (·.1)) * (rI (.slice Aw qs.length cw) (qs.map (·.2)) * (pts w5.heap.size (.cells #[.int .i64 (wt)] 2 (0, 0)) * (gmap Value.string mb (entE es) * (star ((outE es x.f0).map En.rows) * (R))))))))) := Lib.hid (by have T := HPD.out.alloc (.cells #[.int .i64 (wt)] 2); (try simp only [World.size_alloc] at T); exact (show Sat w0 (w5.drew.alloc (.cells #[.int .i64 (wt)] 2)) (pts w5.heap.size (.cells #[.int .i64 (wt)] 2 (0, 0)) * (pts (xb + 1) (.cells #[.slice As qs.length cs, .slice Aw qs.length cw] 106) * (pts xb (.cells #[.string x.f0, .int .i64 x.f1] 30) * (rI (.slice As qs.length cs) (qs.map (·.1)) * (rI (.slice Aw qs.length cw) (qs.map (·.2)) * (gmap Value.string mb (entE es) * (star ((outE es x.f0).map En.rows) * (R)))))))) from T).cong (by ac_rfl))
            refine hK.out _ _ ?_ (fun hHeld => ?_)
            · exact cellsJ HJ8.out
            clear hK K
            try simp only [Act.put, List.setIfInBounds_toArray, List.set_cons_zero, List.set_cons_succ]
            refine wpAnyH_ready (rs := [7]) (by kernel_rfl) (by simp) ?_
            refine AllReadyH.cons rfl (fun K hK => ?_) AllReadyH.nil
            go_simp
            have HJ9 : Hid (Sat w0 ((w5.drew.alloc (.cells #[.int .i64 (wt)] 2)).alloc (.cells #[.int .i64 (x.f1)] 2)) (pts (xb + 1) (.cells #[.slice As qs.length cs, .slice Aw qs.length cw] 106) * (pts xb (.cells #[.string x.f0, .int .i64 x.f1] 30) * (rI (.slice As qs.length cs) (qs.map (·.1)) * (rI (.slice Aw qs.length cw) (qs.map (·.2)) * (pts (w5.heap.size + 1) (.cells #[.int .i64 (x.f1)] 2 (0, 0)) * (pts w5.heap.size (.cells #[.int .i64 (wt)] 2 (0, 0)) * (gmap Value.string mb (entE es) * (star ((outE es x.f0).map En.rows) * (R)))))))))) := Lib.hid (by have T := HJ8.out.alloc (.cells #[.int .i64 (x.f1)] 2); (try simp only [World.size_alloc] at T); exact (show Sat w0 ((w5.drew.alloc (.cells #[.int .i64 (wt)] 2)).alloc (.cells #[.int .i64 (x.f1)] 2)) (pts (w5.heap.size + 1) (.cells #[.int .i64 (x.f1)] 2 (0, 0)) * (pts (xb + 1) (.cells #[.slice As qs.length cs, .slice Aw qs.length cw] 106) * (pts xb (.cells #[.string x.f0, .int .i64 x.f1] 30) * (rI (.slice As qs.length cs) (qs.map (·.1)) * (rI (.slice Aw qs.length cw) (qs.map (·.2)) * (pts w5.heap.size (.cells #[.int .i64 (wt)] 2 (0, 0)) * (gmap Value.string mb (entE es) * (star ((outE es x.f0).map En.rows) * (R))))))))) from T).cong (by ac_rfl))
            refine hK.out _ _ ?_ (fun hHeld => ?_)
            · exact cellsJ HJ9.out
            clear hK K
            try simp only [Act.put, List.setIfInBounds_toArray, List.set_cons_zero, List.set_cons_succ]
            refine wpAnyH_ready (rs := [8]) (by kernel_rfl) (by simp) ?_
            refine AllReadyH.cons rfl (fun K hK => ?_) AllReadyH.nil
            obtain ⟨gg10, cc10, ww10, hr10, SS10⟩ := rI_appN (x := x.f1) (by simp : _ = qs.length) HQL.out (HJ9.out.cong (by ac_rfl : _ = rI (.slice As qs.length cs) (qs.map (·.1)) * (pts (w5.heap.size + 1) (.cells #[.int .i64 (x.f1)] 2 (0, 0)) * (pts (xb + 1) (.cells #[.slice As qs.length cs, .slice Aw qs.length cw] 106) * (pts xb (.cells #[.string x.f0, .int .i64 x.f1] 30) * (rI (.slice Aw qs.length cw) (qs.map (·.2)) * (pts w5.heap.size (.cells #[.int .i64 (wt)] 2 (0, 0)) * (gmap Value.string mb (entE es) * (star ((outE es x.f0).map En.rows) * (R))))))))))
            have HJ10 : Hid (Sat w0 ww10 (pts (xb + 1) (.cells #[.slice As qs.length cs, .slice Aw qs.length cw] 106) * (pts xb (.cells #[.string x.f0, .int .i64 x.f1] 30) * (rI (.slice (some ⟨gg10, 0, none⟩) (qs.length + 1) cc10) (qs.map (·.1) ++ [x.f1]) * (rI (.slice Aw qs.length cw) (qs.map (·.2)) * (pts w5.heap.size (.cells #[.int .i64 (wt)] 2 (0, 0)) * (gmap Value.string mb (entE es) * (star ((outE es x.f0).map En.rows) * (R))))))))) := Lib.hid (SS10.p2.drop1.cong (by ac_rfl))
            clear SS10
            refine step_append_J (by rfl) _ _ _ _ (by rfl) (AppJ.mk hr10) (by rfl) (by rfl) ?_
            refine hK.out _ _ ?_ (fun hHeld => ?_)
            · exact cellsJ HJ10.out
            clear hK K
            try simp only [Act.put, List.setIfInBounds_toArray, List.set_cons_zero, List.set_cons_succ]
            refine wpAnyH_ready (rs := [13]) (by kernel_rfl) (by simp) ?_
            refine AllReadyH.cons rfl (fun K hK => ?_) AllReadyH.nil
            obtain ⟨gg11, cc11, ww11, hr11, SS11⟩ := rI_appN (x := wt) (by simp : _ = qs.length) HQL.out (HJ10.out.cong (by ac_rfl : _ = rI (.slice Aw qs.length cw) (qs.map (·.2)) * (pts w5.heap.size (.cells #[.int .i64 (wt)] 2 (0, 0)) * (pts (xb + 1) (.cells #[.slice As qs.length cs, .slice Aw qs.length cw] 106) * (pts xb (.cells #[.string x.f0, .int .i64 x.f1] 30) * (rI (.slice (some ⟨gg10, 0, none⟩) (qs.length + 1) cc10) (qs.map (·.1) ++ [x.f1]) * (gmap Value.string mb (entE es) * (star ((outE es x.f0).map En.rows) * (R)))))))))
            have HJ11 : Hid (Sat w0 ww11 (pts (xb + 1) (.cells #[.slice As qs.length cs, .slice Aw qs.length cw] 106) * (pts xb (.cells #[.string x.f0, .int .i64 x.f1] 30) * (rI (.slice (some ⟨gg10, 0, none⟩) (qs.length + 1) cc10) (qs.map (·.1) ++ [x.f1]) * (rI (.slice (some ⟨gg11, 0, none⟩) (qs.length + 1) cc11) (qs.map (·.2) ++ [wt]) * (gmap Value.string mb (entE es) * (star ((outE es x.f0).map En.rows) * (R)))))))) := Lib.hid (SS11.p2.drop1.cong (by ac_rfl))
            clear SS11
            refine step_append_J (by rfl) _ _ _ _ (by rfl) (AppJ.mk hr11) (by rfl) (by rfl) ?_
            refine hK.out _ _ ?_ (fun hHeld => ?_)
            · exact cellsJ HJ11.out
            clear hK K
            try simp only [Act.put, List.setIfInBounds_toArray, List.set_cons_zero, List.set_cons_succ]
            refine wpAnyH_take (i := 14) (v := ?_) (by simp only [List.getElem?_toArray, List.getElem?_cons_succ, List.getElem?_cons_zero]; rfl) (by kernel_rfl) (by kernel_rfl) (by kernel_rfl) (fun _ _ _ h => h) (Or.inl ⟨by rfl, ?_⟩) hHeld ?_
            rotate_left
            · (intro w hSw; (try dsimp only at hSw); go_simp; try with_reducible rfl)
            try simp only [Act.put, List.setIfInBounds_toArray, List.set_cons_zero, List.set_cons_succ]
            obtain ⟨wm, hu, SM⟩ := (HJ11.out.cong (by ac_rfl : _ = gmap Value.string mb (entE es) * (rI (.slice (some ⟨gg10, 0, none⟩) (qs.length + 1) cc10) (qs.map (·.1) ++ [x.f1]) * (rI (.slice (some ⟨gg11, 0, none⟩) (qs.length + 1) cc11) (qs.map (·.2) ++ [wt]) * (star ((outE es x.f0).map En.rows) * (R * (pts (xb + 1) (.cells #[.slice As qs.length cs, .slice Aw qs.length cw] 106) * (pts xb (.cells #[.string x.f0, .int .i64 x.f1] 30))))))))).run_mapUpdate keys_string fkm fks x.f0 (.agg #[(.slice (some ⟨gg10, 0, none⟩) (qs.length + 1) cc10), (.slice (some ⟨gg11, 0, none⟩) (qs.length + 1) cc11)])
            have HSM : Hid (∃ es', MetOk ws es' (L.take i ++ [li.take (k + 1)]) ∧ Sat w0 wm (pts (xb + 1) (.cells #[.slice As qs.length cs, .slice Aw qs.length cw] 106) * (pts xb (.cells #[.string x.f0, .int .i64 x.f1] 30) * (metJ mb es' * R)))) := Lib.hid (leafJ HE.out HQS.out HNF.out HTK.out HTL.out (HWT.out.symm) SM)
            clear SM
            refine wpAnyH_ready (rs := [15]) (by kernel_rfl) (by simp) ?_
            refine AllReadyH.cons rfl (fun K hK => ?_) AllReadyH.nil
            refine step_mup_J (by rfl) _ _ _ (by rfl) (MupJ.mk hu) (by rfl) (by rfl) (by rfl) ?_
            refine hK.out _ _ ?_ (fun hHeld => ?_)
            · obtain ⟨_, _, S⟩ := HSM.out; exact cellsJ S
            clear hK K
            try simp only [Act.put, List.setIfInBounds_toArray, List.set_cons_zero, List.set_cons_succ]
            refine wpAnyH_done (by kernel_rfl) ?_ _
            refine NoPanic.normal ?_
            obtain ⟨es', HE', HS'⟩ := HSM.out
            go_wp2_with fail
            go_roundw
            case rel => exact ⟨k + 1, es', by rw [hwk], by omega, Lib.hid HE', Lib.hid HS'.drop1.drop1⟩
            case measure => rw [hwk]; simp only [RowKit.intOf, Int.toNat_natCast]; omega
            -- END J wt
          · have hke : k = li.length := by omega
            subst hke
            have HE3 : Hid (MetOk ws es (L.take (i + 1))) := Lib.hid (by
              have := HE.out
              rw [List.take_length] at this
              rw [HTI.out]; exact this)
            go_wp2_with fail
            go_roundw
            case rel => exact ⟨i + 1, es, by rw [hwi], by omega, HE3, HSi⟩
            case measure => rw [hwi]; simp only [RowKit.intOf, Int.toNat_natCast]; omega
      · have hpw : (1 : Int) = wt := by rw [HWT.out]; unfold pw; rw [if_neg hwl]
        subst hpw
        have hdw : decide ((i : Int) < (ws.length : Int)) = false := by simp; omega
        have hdn : decide (i < ws.length) = false := decide_eq_false hwl
        have hli' : ¬ (i : Int) < (ws.length : Int) := by omega
        go_wp2_with fail
        go_loopw [40] (fun v40 wy => ∃ (k : Nat) (es : List En), v40 = .int .i64 k ∧ k ≤ li.length ∧ Hid (MetOk ws es (L.take i ++ [li.take k])) ∧ Hid (Sat w0 wy (metJ mb es * R))) (fun v40 _ => li.length - (RowKit.intOf v40).toNat)
        case atStart => exact ⟨0, es, rfl, by omega, HE2, HSi⟩
        case round =>
          clear HE2 HSi HE
          obtain ⟨k, es, rfl, hk, HE, HSi⟩ := hrel
          by_cases hk2 : k < li.length
          · have hwk := wrap_upZ hk2 (show li.length ≤ 9223372036854775807 by have := HM.out _ HMI.out; omega)
            obtain ⟨ae, e2, z0, z1⟩ := argZ (HBX.out _ _ HSi.out) (Below.refl _ _) hk2
            subst e2
            obtain ⟨x, hx⟩ : ∃ x, x = li[k] := ⟨_, rfl⟩
            rw [← hx] at z0 z1
            have HNF : Hid (findS (li.take k) x.f0 = none) := Lib.hid (find_fresh (HU.out _ HMI.out) hk2 hx)
            have HTK : Hid (li.take (k + 1) = li.take k ++ [x]) := Lib.hid (by rw [hx]; exact (List.take_append_getElem hk2).symm)
            have HXS : Hid (x.f0.size ≤ maxLen) := Lib.hid (by rw [hx]; exact (HSX.out _ HMI.out _ (List.getElem_mem hk2)).2)
            clear hx
            obtain ⟨sv, wv, hlk, SO⟩ := HSi.out.met_out (m := x.f0) HE.out.nd
            obtain ⟨xb, hxb⟩ : ∃ xb, xb = wr.heap.size := ⟨_, rfl⟩
            obtain ⟨qs, hqs⟩ : ∃ qs, qs = getE es x.f0 := ⟨_, rfl⟩
            rw [← hqs] at SO
            obtain ⟨As, cs, hAs⟩ := rI_slice SO
            obtain ⟨Aw, cw, hAw⟩ := rI_slice SO.p2
            rw [List.length_map] at hAs hAw
            subst hAs hAw
            have HQS := Lib.hid hqs
            clear hqs
            have SO1 := SO.alloc (.cells #[.string x.f0, .int .i64 x.f1] 30)
            have SA := SO1.alloc (.cells #[.slice As qs.length cs, .slice Aw qs.length cw] 106)
            simp only [World.size_alloc] at SA
            rw [← hxb] at SA
            have hl104 := SO1.p4.run_lookup keys_string fkm fks fzero false x.f0
            rw [hlk] at hl104
            have HSA := Lib.hid SA
            have HXB := Lib.hid hxb
            clear SO SO1 SA hxb hlk
            go_upto_region 12 with (fail)
            rw [← HXB.out]
            refine gen_w HSA.out ?_
            clear HSA HXB
            intro w5 SP
            have HP := Lib.hid SP
            have HQL : Hid (qs.length < 1000000) := Lib.hid (by rw [HQS.out, HE.out.get]; have h1 := prsM_len ws x.f0 (L.take i ++ [li.take k]) 0; have h2 := HL.out; rw [List.length_append, List.length_take] at h1; simp only [List.length_cons, List.length_nil] at h1; omega)
            clear SP
            -- BEGIN J 1
            refine wp_region_noPanic ?_
            refine wp_region_held_drew (S := (fun w' => w'.cell? ⟨xb, 0, none⟩ = some (.string x.f0) ∧ w'.cell? ⟨xb, 1, none⟩ = some (.int .i64 x.f1) ∧ w'.cell? ⟨xb + 1, 0, none⟩ = some (.slice As qs.length cs) ∧ w'.cell? ⟨xb + 1, 1, none⟩ = some (.slice Aw qs.length cw))) (by kernel_rfl) ?_ (fun hHeld => ?_)
            · exact cellsJ HP.out.drew
            refine wpAnyH_take (i := 0) (v := ?_) (by simp only [List.getElem?_toArray, List.getElem?_cons_succ, List.getElem?_cons_zero]; rfl) (by kernel_rfl) (by kernel_rfl) (by kernel_rfl) (fun _ _ _ h => h) (Or.inl ⟨by rfl, ?_⟩) hHeld ?_
            rotate_left
            · (intro w hSw; (try dsimp only at hSw); go_simp; try with_reducible rfl)
            try simp only [Act.put, List.setIfInBounds_toArray, List.set_cons_zero, List.set_cons_succ]
            refine wpAnyH_take (i := 1) (v := ?_) (by simp only [List.getElem?_toArray, List.getElem?_cons_succ, List.getElem?_cons_zero]; rfl) (by kernel_rfl) (by kernel_rfl) (by kernel_rfl) (fun _ _ _ h => h) (Or.inl ⟨by rfl, ?_⟩) hHeld ?_
            rotate_left
            · (intro w hSw; (try dsimp only at hSw); go_simp; try with_reducible rfl)
            try simp only [Act.put, List.setIfInBounds_toArray, List.set_cons_zero, List.set_cons_succ]
            refine wpAnyH_take (i := 2) (v := ?_) (by simp only [List.getElem?_toArray, List.getElem?_cons_succ, List.getElem?_cons_zero]; rfl) (by kernel_rfl) (by kernel_rfl) (by kernel_rfl) (fun _ _ _ h => h) (Or.inl ⟨by rfl, ?_⟩) hHeld ?_
            rotate_left
            · (intro w hSw; (try dsimp only at hSw); go_simp; try with_reducible rfl)
            try simp only [Act.put, List.setIfInBounds_toArray, List.set_cons_zero, List.set_cons_succ]
            refine wpAnyH_take (i := 3) (v := ?_) (by simp only [List.getElem?_toArray, List.getElem?_cons_succ, List.getElem?_cons_zero]; rfl) (by kernel_rfl) (by kernel_rfl) (by kernel_rfl) (fun _ _ _ h => h) (Or.inl ⟨by rfl, ?_⟩) hHeld ?_
            rotate_left
            · (intro w hSw; (try dsimp only at hSw); go_simp; try with_reducible rfl)
            try simp only [Act.put, List.setIfInBounds_toArray, List.set_cons_zero, List.set_cons_succ]
            refine wpAnyH_take (i := 4) (v := ?_) (by simp only [List.getElem?_toArray, List.getElem?_cons_succ, List.getElem?_cons_zero]; rfl) (by kernel_rfl) (by kernel_rfl) (by kernel_rfl) (fun _ _ _ h => h) (Or.inl ⟨by rfl, ?_⟩) hHeld ?_
            rotate_left
            · (intro w hSw; (try dsimp only at hSw); go_simp; try with_reducible rfl)
            try simp only [Act.put, List.setIfInBounds_toArray, List.set_cons_zero, List.set_cons_succ]
            refine wpAnyH_take (i := 5) (v := ?_) (by simp only [List.getElem?_toArray, List.getElem?_cons_succ, List.getElem?_cons_zero]; rfl) (by kernel_rfl) (by kernel_rfl) (by kernel_rfl) (fun _ _ _ h => h) (Or.inl ⟨by rfl, ?_⟩) hHeld ?_
            rotate_left
            · (intro w hSw; (try dsimp only at hSw); go_simp; try with_reducible rfl)
            try simp only [Act.put, List.setIfInBounds_toArray, List.set_cons_zero, List.set_cons_succ]
            refine wpAnyH_take (i := 6) (v := ?_) (by simp only [List.getElem?_toArray, List.getElem?_cons_succ, List.getElem?_cons_zero]; rfl) (by kernel_rfl) (by kernel_rfl) (by kernel_rfl) (fun _ _ _ h => h) (Or.inl ⟨by rfl, ?_⟩) hHeld ?_
            rotate_left
            · (intro w hSw; (try dsimp only at hSw); go_simp; try with_reducible rfl)
            try simp only [Act.put, List.setIfInBounds_toArray, List.set_cons_zero, List.set_cons_succ]
            refine wpAnyH_take (i := 9) (v := ?_) (by simp only [List.getElem?_toArray, List.getElem?_cons_succ, List.getElem?_cons_zero]; rfl) (by kernel_rfl) (by kernel_rfl) (by kernel_rfl) (fun _ _ _ h => h) (Or.inl ⟨by rfl, ?_⟩) hHeld ?_
            rotate_left
            · (intro w hSw; (try dsimp only at hSw); go_simp; try with_reducible rfl)
            try simp only [Act.put, List.setIfInBounds_toArray, List.set_cons_zero, List.set_cons_succ]
            refine wpAnyH_take (i := 10) (v := ?_) (by simp only [List.getElem?_toArray, List.getElem?_cons_succ, List.getElem?_cons_zero]; rfl) (by kernel_rfl) (by kernel_rfl) (by kernel_rfl) (fun _ _ _ h => h) (Or.inl ⟨by rfl, ?_⟩) hHeld ?_
            rotate_left
            · (intro w hSw; (try dsimp only at hSw); go_simp; try with_reducible rfl)
            try simp only [Act.put, List.setIfInBounds_toArray, List.set_cons_zero, List.set_cons_succ]
            refine wpAnyH_take (i := 11) (v := ?_) (by simp only [List.getElem?_toArray, List.getElem?_cons_succ, List.getElem?_cons_zero]; rfl) (by kernel_rfl) (by kernel_rfl) (by kernel_rfl) (fun _ _ _ h => h) (Or.inl ⟨by rfl, ?_⟩) hHeld ?_
            rotate_left
            · (intro w hSw; (try dsimp only at hSw); go_simp; try with_reducible rfl)
            try simp only [Act.put, List.setIfInBounds_toArray, List.set_cons_zero, List.set_cons_succ]
            have HPD := Lib.hid HP.out.drew
            refine wpAnyH_ready (rs := [7, 12]) (by kernel_rfl) (by simp) ?_
            refine AllReadyH.cons rfl (fun K hK => ?_) ?_
            · go_simp
              have HJ1 : Hid (Sat w0 (w5.drew.alloc (.cells #[.int .i64 (x.f1)] 2)) (pts (xb + 1) (.cells #[.slice As qs.length cs, .slice Aw qs.length cw] 106) * (pts xb (.cells #[.string x.f0, .int .i64 x.f1] 30) * (rI (.slice As qs.length cs) (qs.map (·.1)) * (rI (.slice Aw qs.length cw) (qs.map (·.2)) * (pts w5.heap.size (.cells #[.int .i64 (x.f1)] 2 (0, 0)) * (gmap Value.string mb (entE es) * (star ((outE es x.f0).map En.rows) * (R))))))))) := Lib.hid (by have T := HPD.out.alloc (.cells #[.int .i64 (x.f1)] 2); (try simp only [World.size_alloc] at T); exact (show Sat w0 (w5.drew.alloc (.cells #[.int .i64 (x.f1)] 2)) (pts w5.heap.size (.cells #[.int .i64 (x.f1)] 2 (0, 0)) * (pts (xb + 1) (.cells #[.slice As qs.length cs, .slice Aw qs.length cw] 106) * (pts xb (.cells #[.string x.f0, .int .i64 x.f1] 30) * (rI (.slice As qs.length cs) (qs.map (·.1)) * (rI (.slice Aw qs.length cw) (qs.map (·.2)) * (gmap Value.string mb (entE es) * (star ((outE es x.f0).map En.rows) * (R)))))))) from T).cong (by ac_rfl))
              refine hK.out _ _ ?_ (fun hHeld => ?_)
              · exact cellsJ HJ1.out
              clear hK K
              try simp only [Act.put, List.setIfInBounds_toArray, List.set_cons_zero, List.set_cons_succ]
              refine wpAnyH_ready (rs := [8, 12]) (by kernel_rfl) (by simp) ?_
              refine AllReadyH.cons rfl (fun K hK => ?_) ?_
              · obtain ⟨gg2, cc2, ww2, hr2, SS2⟩ := rI_appN (x := x.f1) (by simp : _ = qs.length) HQL.out (HJ1.out.cong (by ac_rfl : _ = rI (.slice As qs.length cs) (qs.map (·.1)) * (pts w5.heap.size (.cells #[.int .i64 (x.f1)] 2 (0, 0)) * (pts (xb + 1) (.cells #[.slice As qs.length cs, .slice Aw qs.length cw] 106) * (pts xb (.cells #[.string x.f0, .int .i64 x.f1] 30) * (rI (.slice Aw qs.length cw) (qs.map (·.2)) * (gmap Value.string mb (entE es) * (star ((outE es x.f0).map En.rows) * (R)))))))))
                have HJ2 : Hid (Sat w0 ww2 (pts (xb + 1) (.cells #[.slice As qs.length cs, .slice Aw qs.length cw] 106) * (pts xb (.cells #[.string x.f0, .int .i64 x.f1] 30) * (rI (.slice (some ⟨gg2, 0, none⟩) (qs.length + 1) cc2) (qs.map (·.1) ++ [x.f1]) * (rI (.slice Aw qs.length cw) (qs.map (·.2)) * (gmap Value.string mb (entE es) * (star ((outE es x.f0).map En.rows) * (R)))))))) := Lib.hid (SS2.p2.drop1.cong (by ac_rfl))
                clear SS2
                refine step_append_J (by rfl) _ _ _ _ (by rfl) (AppJ.mk hr2) (by rfl) (by rfl) ?_
                refine hK.out _ _ ?_ (fun hHeld => ?_)
                · exact cellsJ HJ2.out
                clear hK K
                try simp only [Act.put, List.setIfInBounds_toArray, List.set_cons_zero, List.set_cons_succ]
                refine wpAnyH_ready (rs := [12]) (by kernel_rfl) (by simp) ?_
                refine AllReadyH.cons rfl (fun K hK => ?_) AllReadyH.nil
                go_simp
                have HJ3 : Hid (Sat w0 (ww2.alloc (.cells #[.int .i64 (1)] 2)) (pts (xb + 1) (.cells #[.slice As qs.length cs, .slice Aw qs.length cw] 106) * (pts xb (.cells #[.string x.f0, .int .i64 x.f1] 30) * (rI (.slice (some ⟨gg2, 0, none⟩) (qs.length + 1) cc2) (qs.map (·.1) ++ [x.f1]) * (rI (.slice Aw qs.length cw) (qs.map (·.2)) * (pts ww2.heap.size (.cells #[.int .i64 (1)] 2 (0, 0)) * (gmap Value.string mb (entE es) * (star ((outE es x.f0).map En.rows) * (R))))))))) := Lib.hid (by have T := HJ2.out.alloc (.cells #[.int .i64 (1)] 2); (try simp only [World.size_alloc] at T); exact (show Sat w0 (ww2.alloc (.cells #[.int .i64 (1)] 2)) (pts ww2.heap.size (.cells #[.int .i64 (1)] 2 (0, 0)) * (pts (xb + 1) (.cells #[.slice As qs.length cs, .slice Aw qs.length cw] 106) * (pts xb (.cells #[.string x.f0, .int .i64 x.f1] 30) * (rI (.slice (some ⟨gg2, 0, none⟩) (qs.length + 1) cc2) (qs.map (·.1) ++ [x.f1]) * (rI (.slice Aw qs.length cw) (qs.map (·.2)) * (gmap Value.string mb (entE es) * (star ((outE es x.f0).map En.rows) * (R)))))))) from T).cong (by ac_rfl))
                refine hK.out _ _ ?_ (fun hHeld => ?_)
                · exact cellsJ HJ3.out
                clear hK K
                try simp only [Act.put, List.setIfInBounds_toArray, List.set_cons_zero, List.set_cons_succ]
                refine wpAnyH_ready (rs := [13]) (by kernel_rfl) (by simp) ?_
                refine AllReadyH.cons rfl (fun K hK => ?_) AllReadyH.nil
                obtain ⟨gg4, cc4, ww4, hr4, SS4⟩ := rI_appN (x := 1) (by simp : _ = qs.length) HQL.out (HJ3.out.cong (by ac_rfl : _ = rI (.slice Aw qs.length cw) (qs.map (·.2)) * (pts ww2.heap.size (.cells #[.int .i64 (1)] 2 (0, 0)) * (pts (xb + 1) (.cells #[.slice As qs.length cs, .slice Aw qs.length cw] 106) * (pts xb (.cells #[.string x.f0, .int .i64 x.f1] 30) * (rI (.slice (some ⟨gg2, 0, none⟩) (qs.length + 1) cc2) (qs.map (·.1) ++ [x.f1]) * (gmap Value.string mb (entE es) * (star ((outE es x.f0).map En.rows) * (R)))))))))
                have HJ4 : Hid (Sat w0 ww4 (pts (xb + 1) (.cells #[.slice As qs.length cs, .slice Aw qs.length cw] 106) * (pts xb (.cells #[.string x.f0, .int .i64 x.f1] 30) * (rI (.slice (some ⟨gg2, 0, none⟩) (qs.length + 1) cc2) (qs.map (·.1) ++ [x.f1]) * (rI (.slice (some ⟨gg4, 0, none⟩) (qs.length + 1) cc4) (qs.map (·.2) ++ [1]) * (gmap Value.string mb (entE es) * (star ((outE es x.f0).map En.rows) * (R)))))))) := Lib.hid (SS4.p2.drop1.cong (by ac_rfl))
                clear SS4
                refine step_append_J (by rfl) _ _ _ _ (by rfl) (AppJ.mk hr4) (by rfl) (by rfl) ?_
                refine hK.out _ _ ?_ (fun hHeld => ?_)
                · exact cellsJ HJ4.out
                clear hK K
                try simp only [Act.put, List.setIfInBounds_toArray, List.set_cons_zero, List.set_cons_succ]
                refine wpAnyH_take (i := 14) (v := ?_) (by simp only [List.getElem?_toArray, List.getElem?_cons_succ, List.getElem?_cons_zero]; rfl) (by kernel_rfl) (by kernel_rfl) (by kernel_rfl) (fun _ _ _ h => h) (Or.inl ⟨by rfl, ?_⟩) hHeld ?_
                rotate_left
                · (intro w hSw; (try dsimp only at hSw); go_simp; try with_reducible rfl)
                try simp only [Act.put, List.setIfInBounds_toArray, List.set_cons_zero, List.set_cons_succ]
                obtain ⟨wm, hu, SM⟩ := (HJ4.out.cong (by ac_rfl : _ = gmap Value.string mb (entE es) * (rI (.slice (some ⟨gg2, 0, none⟩) (qs.length + 1) cc2) (qs.map (·.1) ++ [x.f1]) * (rI (.slice (some ⟨gg4, 0, none⟩) (qs.length + 1) cc4) (qs.map (·.2) ++ [1]) * (star ((outE es x.f0).map En.rows) * (R * (pts (xb + 1) (.cells #[.slice As qs.length cs, .slice Aw qs.length cw] 106) * (pts xb (.cells #[.string x.f0, .int .i64 x.f1] 30))))))))).run_mapUpdate keys_string fkm fks x.f0 (.agg #[(.slice (some ⟨gg2, 0, none⟩) (qs.length + 1) cc2), (.slice (some ⟨gg4, 0, none⟩) (qs.length + 1) cc4)])
                have HSM : Hid (∃ es', MetOk ws es' (L.take i ++ [li.take (k + 1)]) ∧ Sat w0 wm (pts (xb + 1) (.cells #[.slice As qs.length cs, .slice Aw qs.length cw] 106) * (pts xb (.cells #[.string x.f0, .int .i64 x.f1] 30) * (metJ mb es' * R)))) := Lib.hid (leafJ HE.out HQS.out HNF.out HTK.out HTL.out (HWT.out.symm) SM)
                clear SM
                refine wpAnyH_ready (rs := [15]) (by kernel_rfl) (by simp) ?_
                refine AllReadyH.cons rfl (fun K hK => ?_) AllReadyH.nil
                refine step_mup_J (by rfl) _ _ _ (by rfl) (MupJ.mk hu) (by rfl) (by rfl) (by rfl) ?_
                refine hK.out _ _ ?_ (fun hHeld => ?_)
                · obtain ⟨_, _, S⟩ := HSM.out; exact cellsJ S
                clear hK K
                try simp only [Act.put, List.setIfInBounds_toArray, List.set_cons_zero, List.set_cons_succ]
                refine wpAnyH_done (by kernel_rfl) ?_ _
                refine NoPanic.normal ?_
                obtain ⟨es', HE', HS'⟩ := HSM.out
                go_wp2_with fail
                go_roundw
                case rel => exact ⟨k + 1, es', by rw [hwk], by omega, Lib.hid HE', Lib.hid HS'.drop1.drop1⟩
                case measure => rw [hwk]; simp only [RowKit.intOf, Int.toNat_natCast]; omega
              refine AllReadyH.cons rfl (fun K hK => ?_) AllReadyH.nil
              go_simp
              have HJ5 : Hid (Sat w0 ((w5.drew.alloc (.cells #[.int .i64 (x.f1)] 2)).alloc (.cells #[.int .i64 (1)] 2)) (pts (xb + 1) (.cells #[.slice As qs.length cs, .slice Aw qs.length cw] 106) * (pts xb (.cells #[.string x.f0, .int .i64 x.f1] 30) * (rI (.slice As qs.length cs) (qs.map (·.1)) * (rI (.slice Aw qs.length cw) (qs.map (·.2)) * (pts w5.heap.size (.cells #[.int .i64 (x.f1)] 2 (0, 0)) * (pts (w5.heap.size + 1) (.cells #[.int .i64 (1)] 2 (0, 0)) * (gmap Value.string mb (entE es) * (star ((outE es x.f0).map En.rows) * (R)))))))))) := Lib.hid (by have T := HJ1.out.alloc (.cells #[.int .i64 (1)] 2); (try simp only [World.size_alloc] at T); exact (show Sat w0 ((w5.drew.alloc (.cells #[.int .i64 (x.f1)] 2)).alloc (.cells #[.int .i64 (1)] 2)) (pts (w5.heap.size + 1) (.cells #[.int .i64 (1)] 2 (0, 0)) * (pts (xb + 1) (.cells #[.slice As qs.length cs, .slice Aw qs.length cw] 106) * (pts xb (.cells #[.string x.f0, .int .i64 x.f1] 30) * (rI (.slice As qs.length cs) (qs.map (·.1)) * (rI (.slice Aw qs.length cw) (qs.map (·.2)) * (pts w5.heap.size (.cells #[.int .i64 (x.f1)] 2 (0, 0)) * (gmap Value.string mb (entE es) * (star ((outE es x.f0).map En.rows) * (R))))))))) from T).cong (by ac_rfl))
              refine hK.out _ _ ?_ (fun hHeld => ?_)
              · exact cellsJ HJ5.out
              clear hK K
              try simp only [Act.put, List.setIfInBounds_toArray, List.set_cons_zero, List.set_cons_succ]
              refine wpAnyH_ready (rs := [8]) (by kernel_rfl) (by simp) ?_
              refine AllReadyH.cons rfl (fun K hK => ?_) AllReadyH.nil
              obtain ⟨gg6, cc6, ww6, hr6, SS6⟩ := rI_appN (x := x.f1) (by simp : _ = qs.length) HQL.out (HJ5.out.cong (by ac_rfl : _ = rI (.slice As qs.length cs) (qs.map (·.1)) * (pts w5.heap.size (.cells #[.int .i64 (x.f1)] 2 (0, 0)) * (pts (xb + 1) (.cells #[.slice As qs.length cs, .slice Aw qs.length cw] 106) * (pts xb (.cells #[.string x.f0, .int .i64 x.f1] 30) * (rI (.slice Aw qs.length cw) (qs.map (·.2)) * (pts (w5.heap.size + 1) (.cells #[.int .i64 (1)] 2 (0, 0)) * (gmap Value.string mb (entE es) * (star ((outE es x.f0).map En.rows) * (R))))))))))
              have HJ6 : Hid (Sat w0 ww6 (pts (xb + 1) (.cells #[.slice As qs.length cs, .slice Aw qs.length cw] 106) * (pts xb (.cells #[.string x.f0, .int .i64 x.f1] 30) * (rI (.slice (some ⟨gg6, 0, none⟩) (qs.length + 1) cc6) (qs.map (·.1) ++ [x.f1]) * (rI (.slice Aw qs.length cw) (qs.map (·.2)) * (pts (w5.heap.size + 1) (.cells #[.int .i64 (1)] 2 (0, 0)) * (gmap Value.string mb (entE es) * (star ((outE es x.f0).map En.rows) * (R))))))))) := Lib.hid (SS6.p2.drop1.cong (by ac_rfl))
              clear SS6
              refine step_append_J (by rfl) _ _ _ _ (by rfl) (AppJ.mk hr6) (by rfl) (by rfl) ?_
              refine hK.out _ _ ?_ (fun hHeld => ?_)
              · exact cellsJ HJ6.out
              clear hK K
              try simp only [Act.put, List.setIfInBounds_toArray, List.set_cons_zero, List.set_cons_succ]
              refine wpAnyH_ready (rs := [13]) (by kernel_rfl) (by simp) ?_
              refine AllReadyH.cons rfl (fun K hK => ?_) AllReadyH.nil
              obtain ⟨gg7, cc7, ww7, hr7, SS7⟩ := rI_appN (x := 1) (by simp : _ = qs.length) HQL.out (HJ6.out.cong (by ac_rfl : _ = rI (.slice Aw qs.length cw) (qs.map (·.2)) * (pts (w5.heap.size + 1) (.cells #[.int .i64 (1)] 2 (0, 0)) * (pts (xb + 1) (.cells #[.slice As qs.length cs, .slice Aw qs.length cw] 106) * (pts xb (.cells #[.string x.f0, .int .i64 x.f1] 30) * (rI (.slice (some ⟨gg6, 0, none⟩) (qs.length + 1) cc6) (qs.map (·.1) ++ [x.f1]) * (gmap Value.string mb (entE es) * (star ((outE es x.f0).map En.rows) * (R)))))))))
              have HJ7 : Hid (Sat w0 ww7 (pts (xb + 1) (.cells #[.slice As qs.length cs, .slice Aw qs.length cw] 106) * (pts xb (.cells #[.string x.f0, .int .i64 x.f1] 30) * (rI (.slice (some ⟨gg6, 0, none⟩) (qs.length + 1) cc6) (qs.map (·.1) ++ [x.f1]) * (rI (.slice (some ⟨gg7, 0, none⟩) (qs.length + 1) cc7) (qs.map (·.2) ++ [1]) * (gmap Value.string mb (entE es) * (star ((outE es x.f0).map En.rows) * (R)))))))) := Lib.hid (SS7.p2.drop1.cong (by ac_rfl))
              clear SS7
              refine step_append_J (by rfl) _ _ _ _ (by rfl) (AppJ.mk hr7) (by rfl) (by rfl) ?_
              refine hK.out _ _ ?_ (fun hHeld => ?_)
              · exact cellsJ HJ7.out
              clear hK K
              try simp only [Act.put, List.setIfInBounds_toArray, List.set_cons_zero, List.set_cons_succ]
              refine wpAnyH_take (i := 14) (v := ?_) (by simp only [List.getElem?_toArray, List.getElem?_cons_succ, List.getElem?_cons_zero]; rfl) (by kernel_rfl) (by kernel_rfl) (by kernel_rfl) (fun _ _ _ h => h) (Or.inl ⟨by rfl, ?_⟩) hHeld ?_
              rotate_left
              · (intro w hSw; (try dsimp only at hSw); go_simp; try with_reducible rfl)
              try simp only [Act.put, List.setIfInBounds_toArray, List.set_cons_zero, List.set_cons_succ]
              obtain ⟨wm, hu, SM⟩ := (HJ7.out.cong (by ac_rfl : _ = gmap Value.string mb (entE es) * (rI (.slice (some ⟨gg6, 0, none⟩) (qs.length + 1) cc6) (qs.map (·.1) ++ [x.f1]) * (rI (.slice (some ⟨gg7, 0, none⟩) (qs.length + 1) cc7) (qs.map (·.2) ++ [1]) * (star ((outE es x.f0).map En.rows) * (R * (pts (xb + 1) (.cells #[.slice As qs.length cs, .slice Aw qs.length cw] 106) * (pts xb (.cells #[.string x.f0, .int .i64 x.f1] 30))))))))).run_mapUpdate keys_string fkm fks x.f0 (.agg #[(.slice (some ⟨gg6, 0, none⟩) (qs.length + 1) cc6), (.slice (some ⟨gg7, 0, none⟩) (qs.length + 1) cc7)])
              have HSM : Hid (∃ es', MetOk ws es' (L.take i ++ [li.take (k + 1)]) ∧ Sat w0 wm (pts (xb + 1) (.cells #[.slice As qs.length cs, .slice Aw qs.length cw] 106) * (pts xb (.cells #[.string x.f0, .int .i64 x.f1] 30) * (metJ mb es' * R)))) := Lib.hid (leafJ HE.out HQS.out HNF.out HTK.out HTL.out (HWT.out.symm) SM)
              clear SM
              refine wpAnyH_ready (rs := [15]) (by kernel_rfl) (by simp) ?_
              refine AllReadyH.cons rfl (fun K hK => ?_) AllReadyH.nil
              refine step_mup_J (by rfl) _ _ _ (by rfl) (MupJ.mk hu) (by rfl) (by rfl) (by rfl) ?_
              refine hK.out _ _ ?_ (fun hHeld => ?_)
              · obtain ⟨_, _, S⟩ := HSM.out; exact cellsJ S
              clear hK K
              try simp only [Act.put, List.setIfInBounds_toArray, List.set_cons_zero, List.set_cons_succ]
              refine wpAnyH_done (by kernel_rfl) ?_ _
              refine NoPanic.normal ?_
              obtain ⟨es', HE', HS'⟩ := HSM.out
              go_wp2_with fail
              go_roundw
              case rel => exact ⟨k + 1, es', by rw [hwk], by omega, Lib.hid HE', Lib.hid HS'.drop1.drop1⟩
              case measure => rw [hwk]; simp only [RowKit.intOf, Int.toNat_natCast]; omega
            refine AllReadyH.cons rfl (fun K hK => ?_) AllReadyH.nil
            go_simp
            have HJ8 : Hid (Sat w0 (w5.drew.alloc (.cells #[.int .i64 (1)] 2)) (pts (xb + 1) (.cells #[.slice As qs.length cs, .slice Aw qs.length cw] 106) * (pts xb (.cells #[.string x.f0, .int .i64 x.f1] 30) * (rI (.slice As qs.length cs) (qs.map (·.1)) * (rI (.slice Aw qs.length cw) (qs.map (·.2)) * (pts w5.heap.size (.cells #[.int .i64 (1)] 2 (0, 0)) * (gmap Value.string mb (entE es) * (star ((outE es x.f0).map En.rows) * (R))))))))) := Lib.hid (by have T := HPD.out.alloc (.cells #[.int .i64 (1)] 2); (try simp only [World.size_alloc] at T); exact (show Sat w0 (w5.drew.alloc (.cells #[.int .i64 (1)] 2)) (pts w5.heap.size (.cells #[.int .i64 (1)] 2 (0, 0)) * (pts (xb + 1) (.cells #[.slice As qs.length cs, .slice Aw qs.length cw] 106) * (pts xb (.cells #[.string x.f0, .int .i64 x.f1] 30) * (rI (.slice As qs.length cs) (qs.map (·.1)) * (rI (.slice Aw qs.length cw) (qs.map (·.2)) * (gmap Value.string mb (entE es) * (star ((outE es x.f0).map En.rows) * (R)))))))) from T).cong (by ac_rfl))
            refine hK.out _ _ ?_ (fun hHeld => ?_)
            · exact cellsJ HJ8.out
            clear hK K
            try simp only [Act.put, List.setIfInBounds_toArray, List.set_cons_zero, List.set_cons_succ]
            refine wpAnyH_ready (rs := [7]) (by kernel_rfl) (by simp) ?_
            refine AllReadyH.cons rfl (fun K hK => ?_) AllReadyH.nil
            go_simp
            have HJ9 : Hid (Sat w0 ((w5.drew.alloc (.cells #[.int .i64 (1)] 2)).alloc (.cells #[.int .i64 (x.f1)] 2)) (pts (xb + 1) (.cells #[.slice As qs.length cs, .slice Aw qs.length cw] 106) * (pts xb (.cells #[.string x.f0, .int .i64 x.f1] 30) * (rI (.slice As qs.length cs) (qs.map (·.1)) * (rI (.slice Aw qs.length cw) (qs.map (·.2)) * (pts (w5.heap.size + 1) (.cells #[.int .i64 (x.f1)] 2 (0, 0)) * (pts w5.heap.size (.cells #[.int .i64 (1)] 2 (0, 0)) * (gmap Value.string mb (entE es) * (star ((outE es x.f0).map En.rows) * (R)))))))))) := Lib.hid (by have T := HJ8.out.alloc (.cells #[.int .i64 (x.f1)] 2); (try simp only [World.size_alloc] at T); exact (show Sat w0 ((w5.drew.alloc (.cells #[.int .i64 (1)] 2)).alloc (.cells #[.int .i64 (x.f1)] 2)) (pts (w5.heap.size + 1) (.cells #[.int .i64 (x.f1)] 2 (0, 0)) * (pts (xb + 1) (.cells #[.slice As qs.length cs, .slice Aw qs.length cw] 106) * (pts xb (.cells #[.string x.f0, .int .i64 x.f1] 30) * (rI (.slice As qs.length cs) (qs.map (·.1)) * (rI (.slice Aw qs.length cw) (qs.map (·.2)) * (pts w5.heap.size (.cells #[.int .i64 (1)] 2 (0, 0)) * (gmap Value.string mb (entE es) * (star ((outE es x.f0).map En.rows) * (R))))))))) from T).cong (by ac_rfl))
            refine hK.out _ _ ?_ (fun hHeld => ?_)
            · exact cellsJ HJ9.out
            clear hK K
            try simp only [Act.put, List.setIfInBounds_toArray, List.set_cons_zero, List.set_cons_succ]
            refine wpAnyH_ready (rs := [8]) (by kernel_rfl) (by simp) ?_
            refine AllReadyH.cons rfl (fun K hK => ?_) AllReadyH.nil
            obtain ⟨gg10, cc10, ww10, hr10, SS10⟩ := rI_appN (x := x.f1) (by simp : _ = qs.length) HQL.out (HJ9.out.cong (by ac_rfl : _ = rI (.slice As qs.length cs) (qs.map (·.1)) * (pts (w5.heap.size + 1) (.cells #[.int .i64 (x.f1)] 2 (0, 0)) * (pts (xb + 1) (.cells #[.slice As qs.length cs, .slice Aw qs.length cw] 106) * (pts xb (.cells #[.string x.f0, .int .i64 x.f1] 30) * (rI (.slice Aw qs.length cw) (qs.map (·.2)) * (pts w5.heap.size (.cells #[.int .i64 (1)] 2 (0, 0)) * (gmap Value.string mb (entE es) * (star ((outE es x.f0).map En.rows) * (R))))))))))
            have HJ10 : Hid (Sat w0 ww10 (pts (xb + 1) (.cells #[.slice As qs.length cs, .slice Aw qs.length cw] 106) * (pts xb (.cells #[.string x.f0, .int .i64 x.f1] 30) * (rI (.slice (some ⟨gg10, 0, none⟩) (qs.length + 1) cc10) (qs.map (·.1) ++ [x.f1]) * (rI (.slice Aw qs.length cw) (qs.map (·.2)) * (pts w5.heap.size (.cells #[.int .i64 (1)] 2 (0, 0)) * (gmap Value.string mb (entE es) * (star ((outE es x.f0).map En.rows) * (R))))))))) := Lib.hid (SS10.p2.drop1.cong (by ac_rfl))
            clear SS10
            refine step_append_J (by rfl) _ _ _ _ (by rfl) (AppJ.mk hr10) (by rfl) (by rfl) ?_
            refine hK.out _ _ ?_ (fun hHeld => ?_)
            · exact cellsJ HJ10.out
            clear hK K
            try simp only [Act.put, List.setIfInBounds_toArray, List.set_cons_zero, List.set_cons_succ]
            refine wpAnyH_ready (rs := [13]) (by kernel_rfl) (by simp) ?_
            refine AllReadyH.cons rfl (fun K hK => ?_) AllReadyH.nil
            obtain ⟨gg11, cc11, ww11, hr11, SS11⟩ := rI_appN (x := 1) (by simp : _ = qs.length) HQL.out (HJ10.out.cong (by ac_rfl : _ = rI (.slice Aw qs.length cw) (qs.map (·.2)) * (pts w5.heap.size (.cells #[.int .i64 (1)] 2 (0, 0)) * (pts (xb + 1) (.cells #[.slice As qs.length cs, .slice Aw qs.length cw] 106) * (pts xb (.cells #[.string x.f0, .int .i64 x.f1] 30) * (rI (.slice (some ⟨gg10, 0, none⟩) (qs.length + 1) cc10) (qs.map (·.1) ++ [x.f1]) * (gmap Value.string mb (entE es) * (star ((outE es x.f0).map En.rows) * (R)))))))))
            have HJ11 : Hid (Sat w0 ww11 (pts (xb + 1) (.cells #[.slice As qs.length cs, .slice Aw qs.length cw] 106) * (pts xb (.cells #[.string x.f0, .int .i64 x.f1] 30) * (rI (.slice (some ⟨gg10, 0, none⟩) (qs.length + 1) cc10) (qs.map (·.1) ++ [x.f1]) * (rI (.slice (some ⟨gg11, 0, none⟩) (qs.length + 1) cc11) (qs.map (·.2) ++ [1]) * (gmap Value.string mb (entE es) * (star ((outE es x.f0).map En.rows) * (R)))))))) := Lib.hid (SS11.p2.drop1.cong (by ac_rfl))
            clear SS11
            refine step_append_J (by rfl) _ _ _ _ (by rfl) (AppJ.mk hr11) (by rfl) (by rfl) ?_
            refine hK.out _ _ ?_ (fun hHeld => ?_)
            · exact cellsJ HJ11.out
            clear hK K
            try simp only [Act.put, List.setIfInBounds_toArray, List.set_cons_zero, List.set_cons_succ]
            refine wpAnyH_take (i := 14) (v := ?_) (by simp only [List.getElem?_toArray, List.getElem?_cons_succ, List.getElem?_cons_zero]; rfl) (by kernel_rfl) (by kernel_rfl) (by kernel_rfl) (fun _ _ _ h => h) (Or.inl ⟨by rfl, ?_⟩) hHeld ?_
            rotate_left
            · (intro w hSw; (try dsimp only at hSw); go_simp; try with_reducible rfl)
            try simp only [Act.put, List.setIfInBounds_toArray, List.set_cons_zero, List.set_cons_succ]
            obtain ⟨wm, hu, SM⟩ := (HJ11.out.cong (by ac_rfl : _ = gmap Value.string mb (entE es) * (rI (.slice (some ⟨gg10, 0, none⟩) (qs.length + 1) cc10) (qs.map (·.1) ++ [x.f1]) * (rI (.slice (some ⟨gg11, 0, none⟩) (qs.length + 1) cc11) (qs.map (·.2) ++ [1]) * (star ((outE es x.f0).map En.rows) * (R * (pts (xb + 1) (.cells #[.slice As qs.length cs, .slice Aw qs.length cw] 106) * (pts xb (.cells #[.string x.f0, .int .i64 x.f1] 30))))))))).run_mapUpdate keys_string fkm fks x.f0 (.agg #[(.slice (some ⟨gg10, 0, none⟩) (qs.length + 1) cc10), (.slice (some ⟨gg11, 0, none⟩) (qs.length + 1) cc11)])
            have HSM : Hid (∃ es', MetOk ws es' (L.take i ++ [li.take (k + 1)]) ∧ Sat w0 wm (pts (xb + 1) (.cells #[.slice As qs.length cs, .slice Aw qs.length cw] 106) * (pts xb (.cells #[.string x.f0, .int .i64 x.f1] 30) * (metJ mb es' * R)))) := Lib.hid (leafJ HE.out HQS.out HNF.out HTK.out HTL.out (HWT.out.symm) SM)
            clear SM
            refine wpAnyH_ready (rs := [15]) (by kernel_rfl) (by simp) ?_
            refine AllReadyH.cons rfl (fun K hK => ?_) AllReadyH.nil
            refine step_mup_J (by rfl) _ _ _ (by rfl) (MupJ.mk hu) (by rfl) (by rfl) (by rfl) ?_
            refine hK.out _ _ ?_ (fun hHeld => ?_)
            · obtain ⟨_, _, S⟩ := HSM.out; exact cellsJ S
            clear hK K
            try simp only [Act.put, List.setIfInBounds_toArray, List.set_cons_zero, List.set_cons_succ]
            refine wpAnyH_done (by kernel_rfl) ?_ _
            refine NoPanic.normal ?_
            obtain ⟨es', HE', HS'⟩ := HSM.out
            go_wp2_with fail
            go_roundw
            case rel => exact ⟨k + 1, es', by rw [hwk], by omega, Lib.hid HE', Lib.hid HS'.drop1.drop1⟩
            case measure => rw [hwk]; simp only [RowKit.intOf, Int.toNat_natCast]; omega
            -- END J 1
          · have hke : k = li.length := by omega
            subst hke
            have HE3 : Hid (MetOk ws es (L.take (i + 1))) := Lib.hid (by
              have := HE.out
              rw [List.take_length] at this
              rw [HTI.out]; exact this)
            go_wp2_with fail
            go_roundw
            case rel => exact ⟨i + 1, es, by rw [hwi], by omega, HE3, HSi⟩
            case measure => rw [hwi]; simp only [RowKit.intOf, Int.toNat_natCast]; omega
    · have hie : i = L.length := by omega
      subst hie
      have HE1 : Hid (MetOk ws es L) := Lib.hid (by have := HE.out; rw [List.take_length] at this; exact this)
      have HO0 := Lib.hid (outJ_start all how ws L es)
      have HO : Hid (Sat w0 wr (gmap Value.string mb (entE es) * (star (es.map En.rows) * R))) := Lib.hid (HSi.out.cong (by unfold metJ; ac_rfl))
      clear HE hi hlt HSi
      go_wp2_with (at_range; refine wpList_range_sl _ rfl _ _ rfl _ _ fkm rfl HO.out ?_; intro w3 rr S3)
      have HS3 : Hid (Sat w0 w3 (rS (.slice none 0 0) [] * (ranging Value.string mb rr (entE es) (entE es) * (star (es.map En.rows) * R)))) := Lib.hid (S3.row_nil _ _)
      clear S3 HO
      go_frame
      go_loopw [17] (fun v17 wr => ∃ (p : List (ByteArray × Value) × List Sc), Hid (OutJ all how ws L es p.1 p.2) ∧ Hid (Sat w0 wr (rS v17 p.2 * (ranging Value.string mb rr (entE es) p.1 * (star (es.map En.rows) * R))))) (fun _ wr => wr.rangeLeft mb rr)
      case atStart => exact ⟨(entE es, []), HO0, HS3⟩
      case round =>
        clear HS3 HO0
        obtain ⟨⟨todo, out⟩, HO, HSr⟩ := hrel
        simp only at HO HSr
        have hleft := HSr.out.p2.ranging_left
        have HOL := Lib.hid (outJ_len HO.out HE1.out HL.out HM.out)
        go_wp2_with (at_next; refine wpList_next_sl _ rfl _ rfl (fun _ _ h => by injection h) rfl HSr.out.p2 ?_ ?_)
        · intro h0
          subst h0
          obtain ⟨r, hJ, hz, hp⟩ := join_end HE1.out HO.out HL.out HM.out (fun l hl x hx => (HSX.out l hl x hx).2)
          have hJ2 : J = some r := by rw [← hJ]; exact HJ.out
          have her : er = 0 := by rw [HER.out, hJ2]; rfl
          subst hJ2 her
          have S2 := HSr.out.p2.ranging_end.drop1.p2.drop1
          obtain ⟨A5, c5, hv, -, -⟩ := Sat.row_C flatS rfl S2
          subst hv
          have HSR := Lib.hid (srt_of hz)
          have HP := Lib.hid hp
          have HAT := Lib.hid (rS_at S2)
          have HS2 := Lib.hid S2
          clear hz hp S2 HSr hJ hleft HER HJ
          by_cases hz0 : out.length = 0
          · have h0 : out = [] := List.eq_nil_of_length_eq_zero hz0
            have hr0 : r = [] := List.eq_nil_of_length_eq_zero (by rw [HP.out.length_eq]; exact hz0)
            subst h0 hr0
            simp only [List.length_nil]
            clear hz0
            go_wp2_with fail
            refine (AnyF.slices_SortFunc_none Try.sortJ A5 c5 _ _).mono ?_
            rintro en w2 ⟨rfl, rfl⟩
            go_wp2_with fail
            go_ret2
            exact ⟨_, rfl, HS2.out⟩
          · obtain ⟨g, rfl⟩ := HAT.out (by omega)
            have HLN : Hid (out.length < 4611686018427387904) := Lib.hid (by have := HOL.out; omega)
            clear hz0
            go_wp2_with fail
            refine (sortSc HP.out HSR.out HLN.out HS2.out).mono ?_
            rintro en w2 ⟨rfl, S4⟩
            have HS4 : Hid (Sat w0 w2 (rS (.slice (some ⟨g, 0, none⟩) out.length c5) r * R)) := Lib.hid (by unfold rS; rw [HP.out.length_eq]; exact S4)
            clear S4 HS2
            go_wp2_with fail
            go_ret2
            exact ⟨_, rfl, HS4.out⟩
        · intro k v w9 hm hen S9
          have h9 := S9.ranging_left
          have hl9 := era_lt hm
          obtain ⟨e, he, hk, hv, hps⟩ := met_entry HE1.out (HO.out.sub _ hm)
          subst hk hv
          have S10 := entry_open HE1.out.nd he S9
          obtain ⟨As, cs, hAs⟩ := rI_slice S10
          obtain ⟨Aw, cw, hAw⟩ := rI_slice S10.p2
          rw [List.length_map] at hAs hAw
          obtain ⟨xb, hxb⟩ : ∃ xb, xb = w9.heap.size := ⟨_, rfl⟩
          rw [hAs, hAw] at S10 hen
          have S11 := S10.alloc (.cells #[.slice As e.ps.length cs, .slice Aw e.ps.length cw] 106)
          rw [← hxb] at S11
          have HSA := Lib.hid S11
          have HXB := Lib.hid hxb
          have HMM := Lib.hid hm
          have HEE := Lib.hid he
          have HPS := Lib.hid hps
          have HAS := Lib.hid hAs
          have HAW := Lib.hid hAw
          have HJX : Hid (inJ all ws L e.k = !(all && decide ((e.ps.length : Int) < (L.length : Int)))) := Lib.hid (by rw [hps]; exact inJ_iff)
          have HSC : Hid (scJ how ws L e.k = jnGo how 0 true e.ps) := Lib.hid (by rw [hps]; rfl)
          have HPF : Hid (∀ p ∈ e.ps, fitsI p.1 = true ∧ fitsI p.2 = true) := Lib.hid (by rw [hps]; exact prsM_fits HWS.out L 0 (fun l hl x hx => (HSX.out l hl x hx).1))
          have HPB : Hid (e.ps.length ≤ 1000000) := Lib.hid (by rw [hps]; have := prsM_len0 ws e.k L 0; have := HL.out; omega)
          clear S9 S10 S11 hxb hps hm he hAs hAw HSr
          go_upto_region 19 with (fail)
          rw [← HXB.out]
          refine gen_w HSA.out ?_
          clear HSA HXB hen
          intro w5 SP
          obtain ⟨f0, f1, -⟩ := blk2 SP.blk
          have HP := Lib.hid SP
          clear SP
          cases hin : inJ all ws L e.k with
          | false =>
            have hj := HJX.out
            rw [hin] at hj
            have ha : all = true := by cases all with | true => rfl | false => simp at hj
            subst ha
            have hlt : decide ((e.ps.length : Int) < (L.length : Int)) = true := by simpa using hj.symm
            have hltn : decide (e.ps.length < L.length) = true := by rw [decide_eq_true_eq] at hlt ⊢; omega
            have HN := Lib.hid (HO.out.skip hin)
            have HS6 := Lib.hid ((entry_close (Z := emp) HE1.out.nd HEE.out HAS.out HAW.out (HP.out.cong (by rw [emp_mul]))).p2.drop1)
            clear hj hin HJX HP
            go_wp2_with fail
            go_roundw
            case rel => exact ⟨(era todo e.k, out), HN, HS6⟩
            case measure => rw [HS6.out.p2.ranging_left, hleft]; exact hl9
          | true =>
            have HIN := Lib.hid hin
            have hj := HJX.out
            rw [hin] at hj
            have hcall := joinedE (how := how) HPB.out HPF.out HP.out.drop1
            rw [← HSC.out] at hcall
            have HC := Lib.hid hcall
            clear hcall hin
            have hc : all = false ∨ (all = true ∧ decide ((e.ps.length : Int) < (L.length : Int)) = false) := by
              cases all with
              | false => exact .inl rfl
              | true => exact .inr ⟨rfl, by simpa using hj.symm⟩
            clear hj HJX
            rcases hc with rfl | ⟨rfl, hlt⟩
            all_goals
              try have hltn : decide (e.ps.length < L.length) = false := by (rw [decide_eq_false_iff_not] at hlt ⊢; omega)
              go_wp2_with fail
              refine HC.out.mono ?_
              rintro en w6 ⟨rfl, hb⟩
              have HP6 := Lib.hid (HP.out.below hb)
              clear hb HC HP f0 f1
              try clear hlt hltn
              cases hsc : scJ how ws L e.k with
              | none =>
                have hJ2 : J = none := by rw [HJ.out]; exact join_over HE1.out HEE.out HIN.out hsc
                have her : er = 13 := by rw [HER.out, hJ2]; rfl
                subst hJ2 her
                have HSN : Hid (Sat w0 w6 (rS (.slice none 0 0) [] * R)) := Lib.hid ((entry_close (Z := emp) HE1.out.nd HEE.out HAS.out HAW.out (HP6.out.cong (by rw [emp_mul]))).drop1.drop1.drop1.drop1.row_nil _ _)
                clear hsc HSC HP6
                simp only [Option.isSome_none, Option.getD_none]
                go_wp2_with fail
                go_ret2
                exact ⟨_, rfl, HSN.out⟩
              | some z =>
                have HN := Lib.hid (HO.out.add HEE.out HMM.out HIN.out hsc)
                have T := HP6.out.alloc (.cells #[.string e.k, .int .i64 z] 30)
                obtain ⟨q0, q1, -⟩ := blk2 T.blk
                have T2 := entry_close HE1.out.nd HEE.out HAS.out HAW.out T
                obtain ⟨v', w', hr, S4⟩ := Sat.rS_append (x := ⟨e.k, z⟩) (by have := HOL.out; omega) T2 w6.heap.size 1 q0 q1
                have HS4 := Lib.hid (S4.p2.drop1)
                clear hsc HSC HP6 T T2 q0 q1 S4
                simp only [Option.isSome_some, Option.getD_some]
                go_wp2_with (at_builtin; refine wpList_append_eq rfl _ _ _ _ rfl rfl rfl hr ?_)
                clear hr
                go_roundw
                case rel => exact ⟨(era todo e.k, out ++ [⟨e.k, z⟩]), HN, HS4⟩
                case measure => rw [HS4.out.p2.ranging_left, hleft]; exact hl9
end Go.Sl
