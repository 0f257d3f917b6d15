/-
  A map that is owned: its block, as a list of keys and values in whatever order. Over any program.
-/
import Derived.Test.YthhapcgodofpkaaSl
import Derived.Carry
namespace Go.Sl
open Go.RowKit Go.MapKept
set_option linter.unusedVariables false
set_option linter.unusedSectionVars false
set_option linter.unusedSimpArgs false

/-- What lies under a key. -/
def lk {κ : Type} [DecidableEq κ] (l : List (κ × Value)) (k : κ) : Option Value := (l.find? fun p => decide (p.1 = k)).map (·.2)
def era {κ : Type} [DecidableEq κ] (l : List (κ × Value)) (k : κ) : List (κ × Value) := l.filter fun p => !decide (p.1 = k)
def ins {κ : Type} [DecidableEq κ] (l : List (κ × Value)) (k : κ) (v : Value) : List (κ × Value) := (k, v) :: era l k

/-- How keys stand in a map: of one kind, and no two alike. -/
structure Keys (d : TypeDesc) {κ : Type} (kv : κ → Value) : Prop where
  kind : ∀ x, IsKey d (kv x)
  inj : ∀ x y, kv x = kv y → x = y
theorem keys_string : Keys .string (Value.string) := ⟨fun _ => trivial, fun _ _ h => by injection h⟩
theorem keys_int (k : IntKind) : Keys (.int k) (Value.int k) := ⟨fun _ => rfl, fun _ _ h => by injection h⟩

/-- Block b is a map with the keys and values of l. -/
def gmap {κ : Type} (kv : κ → Value) (b : Nat) (l : List (κ × Value)) : HP :=
  ex fun m : Array MapEntry × Nat => wh (Stamped m.1 m.2 ∧ (m.1.toList.map fun e => (e.key, e.val)).Perm (l.map fun p => (kv p.1, p.2))) (pts b (.map m.1 m.2))

section
variable {κ : Type} [DecidableEq κ] {kv : κ → Value} {d : TypeDesc} {w0 w : World} {b : Nat} {l l' : List (κ × Value)} {R : HP} {P : Program} {t kt et : TypeId} {z : Value}

theorem gmap_perm (h : l.Perm l') : gmap kv b l = gmap kv b l' := by
  unfold gmap
  congr 1
  funext m
  congr 1
  exact propext ⟨fun h1 => ⟨h1.1, h1.2.trans (h.map _)⟩, fun h1 => ⟨h1.1, h1.2.trans (h.map _).symm⟩⟩

theorem Sat.gmap_open (S : Sat w0 w (gmap kv b l * R)) : ∃ es clock, Stamped es clock ∧ (es.toList.map fun e => (e.key, e.val)).Perm (l.map fun p => (kv p.1, p.2)) ∧ Sat w0 w (pts b (.map es clock) * R) := by
  obtain ⟨m, S⟩ := S.ex1
  obtain ⟨⟨h1, h2⟩, S⟩ := S.wh1
  exact ⟨m.1, m.2, h1, h2, S⟩
theorem Sat.gmap_shut {es : Array MapEntry} {clock : Nat} (h1 : Stamped es clock) (h2 : (es.toList.map fun e => (e.key, e.val)).Perm (l.map fun p => (kv p.1, p.2))) (S : Sat w0 w (pts b (.map es clock) * R)) : Sat w0 w (gmap kv b l * R) :=
by
  unfold gmap
  exact Sat.mk_ex1 (es, clock) (Sat.mk_wh1 ⟨h1, h2⟩ S)
theorem Sat.gmap_lt (S : Sat w0 w (gmap kv b l * R)) : b < w.heap.size := by
  obtain ⟨_, _, _, _, S⟩ := S.gmap_open
  exact S.lt
theorem Sat.gmap_made (S : Sat w0 w R) : Sat w0 (w.alloc (.map #[] 0)) (gmap kv w.heap.size [] * R) :=
  Sat.gmap_shut (stamped_empty 0) (by simp) (S.alloc _)

theorem nodup_of {es : Array MapEntry} {clock : Nat} (h1 : Stamped es clock) (h2 : (es.toList.map fun e => (e.key, e.val)).Perm (l.map fun p => (kv p.1, p.2))) (K : Keys d kv) : (l.map (·.1)).Nodup := by
  have a : (es.toList.map (·.key)).Nodup := h1.2.2
  have p1 : (es.toList.map (·.key)).Perm ((l.map (·.1)).map kv) := by
    have := h2.map (·.1)
    simpa [List.map_map, Function.comp_def] using this
  have := p1.nodup_iff.1 a
  exact (List.pairwise_map.1 this).imp fun h e => h (by rw [e])
theorem kinds_of {es : Array MapEntry} (h2 : (es.toList.map fun e => (e.key, e.val)).Perm (l.map fun p => (kv p.1, p.2))) (K : Keys d kv) : ∀ x ∈ es.toList, IsKey d x.key := by
  intro x hx
  have : (x.key, x.val) ∈ l.map fun p => (kv p.1, p.2) := h2.mem_iff.1 (List.mem_map.2 ⟨x, hx, rfl⟩)
  obtain ⟨p, _, hp⟩ := List.mem_map.1 this
  injection hp with e1 e2
  rw [← e1]
  exact K.kind _

theorem lk_none {k : κ} (h : ∀ p ∈ l, p.1 ≠ k) : lk l k = none := by
  unfold lk
  rw [List.find?_eq_none.2 (fun p hp => by simpa using h p hp)]
  rfl
theorem lk_some {k : κ} {v : Value} (hn : (l.map (·.1)).Nodup) (h : (k, v) ∈ l) : lk l k = some v := by
  induction l with
  | nil => cases h
  | cons p l ih =>
    rw [List.map_cons, List.nodup_cons] at hn
    unfold lk
    rw [List.find?_cons]
    by_cases e : p.1 = k
    · simp only [e, decide_true, Option.map_some, Option.some.injEq]
      rcases List.mem_cons.1 h with h | h
      · rw [← h]
      · exact absurd (List.mem_map.2 ⟨_, h, e.symm⟩) hn.1
    · simp only [e, decide_false]
      rcases List.mem_cons.1 h with h | h
      · rw [← h] at e; exact absurd rfl e
      · exact ih hn.2 h
theorem lk_mem {k : κ} {v : Value} (h : lk l k = some v) : (k, v) ∈ l := by
  unfold lk at h
  obtain ⟨p, hp, rfl⟩ := Option.map_eq_some_iff.1 h
  have := List.find?_some hp
  have e : p.1 = k := by simpa using this
  rw [← e]
  exact List.mem_of_find?_eq_some hp

/-- What the model finds. -/
theorem find_gmap {es : Array MapEntry} {clock : Nat} (h1 : Stamped es clock) (h2 : (es.toList.map fun e => (e.key, e.val)).Perm (l.map fun p => (kv p.1, p.2))) (K : Keys d kv) (hk : P.underlying kt = some d) (w : World) (k : κ) :
    (lk l k = none ∧ (Instr.findKey kt (kv k) es.toList).run P w = .ok none w ∧ ∀ e ∈ es.toList, e.key ≠ kv k) ∨
    ∃ v j e, lk l k = some v ∧ (Instr.findKey kt (kv k) es.toList).run P w = .ok (some (j, v)) w ∧ es.toList[j]? = some e ∧ e.key = kv k ∧ e.val = v := by
  rcases findNow_spec (K.kind k) es.toList 0 (kinds_of h2 K) with ⟨a, c⟩ | ⟨j, e, a, c, f⟩
  · refine .inl ⟨lk_none fun p hp e => ?_, run_findKey hk a, c⟩
    have : (kv p.1, p.2) ∈ es.toList.map fun e => (e.key, e.val) := h2.mem_iff.2 (List.mem_map.2 ⟨p, hp, rfl⟩)
    obtain ⟨x, hx, ex⟩ := List.mem_map.1 this
    injection ex with e1 e2
    exact c x hx (by rw [e1, e])
  · refine .inr ⟨e.val, j, e, ?_, by simpa using run_findKey hk a, c, f, rfl⟩
    have : (e.key, e.val) ∈ l.map fun p => (kv p.1, p.2) := h2.mem_iff.1 (List.mem_map.2 ⟨e, List.mem_of_getElem? c, rfl⟩)
    obtain ⟨p, hp, ep⟩ := List.mem_map.1 this
    injection ep with e1 e2
    have e3 : p.1 = k := K.inj _ _ (e1.trans f)
    exact lk_some (nodup_of h1 h2 K) (by rw [← e2, ← e3]; exact hp)

/-- 'm[k]', with ok and without. -/
theorem Sat.run_lookup (S : Sat w0 w (gmap kv b l * R)) (K : Keys d kv) (ht : P.underlying t = some (.map kt et)) (hk : P.underlying kt = some d) (hz : ∀ w, (zeroValue et).run P w = .ok z w) (c : Bool) (k : κ) :
    (Instr.lookup t (.map (some b)) (kv k) c).run P w = .ok (if c then .tuple #[(lk l k).getD z, .bool (lk l k).isSome] else (lk l k).getD z) w := by
  obtain ⟨es, clock, h1, h2, S⟩ := S.gmap_open
  rcases find_gmap h1 h2 K hk w k with ⟨a, f, _⟩ | ⟨v, j, e, a, f, _⟩
  · simp [Instr.lookup, run_underlying ht, MapKept.run_getObj_map S.blk, run_checkKey hk (K.kind k), f, hz, Result.andThen, a]
  · simp [Instr.lookup, run_underlying ht, MapKept.run_getObj_map S.blk, run_checkKey hk (K.kind k), f, Result.andThen, a]
/-- 'm[k]' of no map. -/
theorem run_lookup_nil (K : Keys d kv) (ht : P.underlying t = some (.map kt et)) (hk : P.underlying kt = some d) (hz : ∀ w, (zeroValue et).run P w = .ok z w) (w : World) (c : Bool) (k : κ) :
    (Instr.lookup t (.map none) (kv k) c).run P w = .ok (if c then .tuple #[z, .bool false] else z) w := by
  have hf : (Instr.findKey kt (kv k) []).run P w = .ok none w := run_findKey hk rfl
  simp [Instr.lookup, run_underlying ht, run_checkKey hk (K.kind k), hf, hz, Result.andThen]
/-- 'len(m)'. -/
theorem Sat.run_len (S : Sat w0 w (gmap kv b l * R)) (ht : P.underlying t = some (.map kt et)) (ty : TypeId) :
    (Builtin.len_ #[t] ty #[.map (some b)]).run P w = .ok (goInt l.length) w := by
  obtain ⟨es, clock, h1, h2, S⟩ := S.gmap_open
  have : es.size = l.length := by simpa using h2.length_eq
  simp [Builtin.len_, run_underlying ht, MapKept.run_getObj_map S.blk, this, Result.andThen]

theorem getElem_cons_eraseIdx_aux {α : Type} : ∀ (l : List α) (j : Nat) (h : j < l.length), (l[j] :: l.eraseIdx j).Perm l
  | [], _, h => by simp at h
  | x :: l, 0, h => by simp
  | x :: l, j + 1, h => by
    simp only [List.getElem_cons_succ, List.eraseIdx_cons_succ]
    exact (List.Perm.swap _ _ _).trans ((getElem_cons_eraseIdx_aux l j (by simpa using h)).cons x)

theorem perm_del {es : Array MapEntry} {clock : Nat} (h1 : Stamped es clock) (h2 : (es.toList.map fun e => (e.key, e.val)).Perm (l.map fun p => (kv p.1, p.2))) (K : Keys d kv) (k : κ) {j : Nat} {e : MapEntry} (hj : es.toList[j]? = some e) (he : e.key = kv k) :
    ((es.toList.eraseIdx j).map fun e => (e.key, e.val)).Perm ((era l k).map fun p => (kv p.1, p.2)) := by
  obtain ⟨hjl, hje⟩ := List.getElem?_eq_some_iff.1 hj
  have hn := nodup_of h1 h2 K
  have a : (e :: es.toList.eraseIdx j).Perm es.toList := by rw [← hje]; exact getElem_cons_eraseIdx_aux _ _ hjl
  have hv : (k, e.val) ∈ l := by
    have : (e.key, e.val) ∈ l.map fun p => (kv p.1, p.2) := h2.mem_iff.1 (List.mem_map.2 ⟨e, List.mem_of_getElem? hj, rfl⟩)
    obtain ⟨p, hp, ep⟩ := List.mem_map.1 this
    injection ep with e1 e2
    rw [← e2, ← K.inj _ _ (e1.trans he)]
    exact hp
  have c : ((k, e.val) :: era l k).Perm l := by
    clear h2
    induction l with
    | nil => cases hv
    | cons p l ih =>
      rw [List.map_cons, List.nodup_cons] at hn
      by_cases ep : p.1 = k
      · have e1 : p = (k, e.val) := by
          rcases List.mem_cons.1 hv with h | h
          · exact h.symm
          · exact absurd (List.mem_map.2 ⟨_, h, ep.symm⟩) hn.1
        subst e1
        have : era ((k, e.val) :: l) k = l := by
          unfold era
          rw [List.filter_cons_of_neg (by simp)]
          refine List.filter_eq_self.2 fun q hq => ?_
          simp only [Bool.not_eq_true', decide_eq_false_iff_not]
          exact fun eq => hn.1 (List.mem_map.2 ⟨q, hq, eq⟩)
        rw [this]
      · have h' : (k, e.val) ∈ l := by
          rcases List.mem_cons.1 hv with h | h
          · rw [← h] at ep; exact absurd rfl ep
          · exact h
        have : era (p :: l) k = p :: era l k := by unfold era; rw [List.filter_cons_of_pos (by simp [ep])]
        rw [this]
        exact (List.Perm.swap _ _ _).trans ((ih hn.2 h').cons p)
  have a2 := a.map fun e => (e.key, e.val)
  have c2 := c.map fun p => (kv p.1, p.2)
  rw [List.map_cons] at a2 c2
  refine List.Perm.cons_inv (a := (e.key, e.val)) ?_
  rw [he] at a2 ⊢
  exact a2.trans (h2.trans c2.symm)

theorem modify_set_aux {α : Type} (f : α → α) : ∀ (l : List α) (j : Nat) (e : α), l[j]? = some e → l.modify j f = l.set j (f e)
  | [], _, _, h => by simp at h
  | x :: l, 0, e, h => by simp at h; subst h; rfl
  | x :: l, j + 1, e, h => by simp at h; simp [modify_set_aux f l j e h]
theorem set_perm_aux {α : Type} (y : α) : ∀ (l : List α) (j : Nat), j < l.length → (l.set j y).Perm (y :: l.eraseIdx j)
  | [], _, h => by simp at h
  | x :: l, 0, h => by simp
  | x :: l, j + 1, h => by
    simp only [List.set_cons_succ, List.eraseIdx_cons_succ]
    exact ((set_perm_aux y l j (by simpa using h)).cons x).trans (List.Perm.swap _ _ _)

/-- 'm[k] = v'. -/
theorem Sat.run_mapUpdate (S : Sat w0 w (gmap kv b l * R)) (K : Keys d kv) (ht : P.underlying t = some (.map kt et)) (hk : P.underlying kt = some d) (k : κ) (v : Value) :
    ∃ w', (Instr.mapUpdate t (.map (some b)) (kv k) v).run P w = .ok () w' ∧ Sat w0 w' (gmap kv b (ins l k v) * R) := by
  obtain ⟨es, clock, h1, h2, S⟩ := S.gmap_open
  rcases find_gmap h1 h2 K hk w k with ⟨a, f, c⟩ | ⟨v', j, e, a, f, c, g, i⟩
  · refine ⟨_, by simp [Instr.mapUpdate, run_underlying ht, MapKept.run_getObj_map S.blk, run_checkKey hk (K.kind k), f, run_setObj_map _ S.blk, Result.andThen]; rfl, ?_⟩
    refine Sat.gmap_shut (stamped_push h1 c) ?_ S.putObj
    have e1 : era l k = l := by
      unfold era
      refine List.filter_eq_self.2 fun p hp => ?_
      simp only [Bool.not_eq_true', decide_eq_false_iff_not]
      intro e
      have : (kv p.1, p.2) ∈ es.toList.map fun e => (e.key, e.val) := h2.mem_iff.2 (List.mem_map.2 ⟨p, hp, rfl⟩)
      obtain ⟨x, hx, ex⟩ := List.mem_map.1 this
      injection ex with e1 e2
      exact c x hx (by rw [e1, e])
    unfold ins
    rw [e1]
    simp only [Array.toList_push, List.map_append, List.map_cons, List.map_nil]
    exact (List.perm_append_singleton _ _).trans (h2.cons _)
  · obtain ⟨hjl, hje⟩ := List.getElem?_eq_some_iff.1 c
    have hj : es[j]? = some e := by simpa using c
    refine ⟨_, by simp [Instr.mapUpdate, run_underlying ht, MapKept.run_getObj_map S.blk, run_checkKey hk (K.kind k), f, hj, g, run_keyThatStays (K.kind k), run_setObj_map _ S.blk, Result.andThen]; rfl, ?_⟩
    refine Sat.gmap_shut (stamped_modify h1 j (fun e => { e with key := kv k, val := v }) (fun _ _ => rfl) (fun e' _ he' => ?_)) ?_ S.putObj
    · rw [hj] at he'; cases he'; exact g.symm
    · have e2 : (es.modify j fun e => { e with key := kv k, val := v }).toList = es.toList.set j { e with key := kv k, val := v } := by
        rw [Array.toList_modify]
        exact modify_set_aux _ _ _ _ c
      rw [e2]
      have p1 : (es.toList.set j { e with key := kv k, val := v }).Perm ({ e with key := kv k, val := v } :: es.toList.eraseIdx j) := set_perm_aux _ _ _ hjl
      refine (p1.map _).trans ?_
      unfold ins
      simp only [List.map_cons]
      exact (perm_del h1 h2 K k c g).cons _

/-- 'delete(m, k)'. -/
theorem Sat.run_delete (S : Sat w0 w (gmap kv b l * R)) (K : Keys d kv) (ht : P.underlying t = some (.map kt et)) (hk : P.underlying kt = some d) (k : κ) (ty t2 : TypeId) :
    ∃ w', (Builtin.delete_ #[t, t2] ty #[.map (some b), kv k]).run P w = .ok (.tuple #[]) w' ∧ Sat w0 w' (gmap kv b (era l k) * R) := by
  obtain ⟨es, clock, h1, h2, S⟩ := S.gmap_open
  rcases find_gmap h1 h2 K hk w k with ⟨a, f, c⟩ | ⟨v', j, e, a, f, c, g, i⟩
  · refine ⟨_, by simp [Builtin.delete_, run_underlying ht, MapKept.run_getObj_map S.blk, run_checkKey hk (K.kind k), f, run_setObj_map _ S.blk, Result.andThen]; rfl, ?_⟩
    refine Sat.gmap_shut h1 ?_ S.putObj
    have e1 : era l k = l := by
      unfold era
      refine List.filter_eq_self.2 fun p hp => ?_
      simp only [Bool.not_eq_true', decide_eq_false_iff_not]
      intro e
      have : (kv p.1, p.2) ∈ es.toList.map fun e => (e.key, e.val) := h2.mem_iff.2 (List.mem_map.2 ⟨p, hp, rfl⟩)
      obtain ⟨x, hx, ex⟩ := List.mem_map.1 this
      injection ex with e1 e2
      exact c x hx (by rw [e1, e])
    rw [e1]
    exact h2
  · obtain ⟨hjl, hje⟩ := List.getElem?_eq_some_iff.1 c
    refine ⟨_, by simp [Builtin.delete_, run_underlying ht, MapKept.run_getObj_map S.blk, run_checkKey hk (K.kind k), f, run_setObj_map _ S.blk, Result.andThen]; rfl, ?_⟩
    refine Sat.gmap_shut (stamped_erase h1 j) ?_ S.putObj
    have : (es.eraseIdxIfInBounds j).toList = es.toList.eraseIdx j := by
      rw [Array.eraseIdxIfInBounds]
      split
      · simp
      · rename_i h; simp at hjl; exact absurd hjl h
    rw [this]
    exact perm_del h1 h2 K k c g
end
end Go.Sl
