/-
  A range over a map that is owned: each entry comes once, in whatever order. Over any program.
-/
import Derived.Test.YthhapcgodofpkaaMp
import Derived.Maps.RangeWalk
namespace Go.Sl
open Go.RowKit Go.MapKept
set_option linter.unusedVariables false
set_option linter.unusedSectionVars false

/-- The map at b is gone through by the iterator at r; todo is still to come. -/
def ranging {κ : Type} (kv : κ → Value) (b r : Nat) (l todo : List (κ × Value)) : HP :=
  ex fun m : Array MapEntry × Nat × Array Nat => wh (Stamped m.1 m.2.1 ∧ (m.1.toList.map fun e => (e.key, e.val)).Perm (l.map fun p => (kv p.1, p.2)) ∧
    ((m.1.toList.filter fun e => !m.2.2.contains e.born).map fun e => (e.key, e.val)).Perm (todo.map fun p => (kv p.1, p.2)))
    (pts b (.map m.1 m.2.1) * pts r (.mapIter (some b) m.2.1 m.2.2 m.2.1))

theorem one_out {x : MapEntry} : ∀ {L : List MapEntry}, x ∈ L → (L.map (·.born)).Nodup → L.Perm (x :: L.filter fun y => !decide (y.born = x.born))
  | a :: L, hx, hn => by
    rw [List.map_cons, List.nodup_cons] at hn
    rcases List.mem_cons.1 hx with rfl | h
    · rw [List.filter_cons_of_neg (by simp), List.filter_eq_self.2 (fun y hy => by
        simp only [Bool.not_eq_true', decide_eq_false_iff_not]
        exact fun e => hn.1 (List.mem_map.2 ⟨y, hy, e⟩))]
    · have e : a.born ≠ x.born := fun e => hn.1 (List.mem_map.2 ⟨x, h, e.symm⟩)
      rw [List.filter_cons_of_pos (by simp [e])]
      exact ((one_out h hn.2).cons a).trans (List.Perm.swap _ _ _)
theorem one_out_key {κ : Type} [DecidableEq κ] {k : κ} {v : Value} : ∀ {L : List (κ × Value)}, (k, v) ∈ L → (L.map (·.1)).Nodup → L.Perm ((k, v) :: era L k)
  | a :: L, hx, hn => by
    rw [List.map_cons, List.nodup_cons] at hn
    unfold era
    rcases List.mem_cons.1 hx with rfl | h
    · rw [List.filter_cons_of_neg (by simp), List.filter_eq_self.2 (fun y hy => by
        simp only [Bool.not_eq_true', decide_eq_false_iff_not]
        exact fun e => hn.1 (List.mem_map.2 ⟨y, hy, e⟩))]
    · have e : a.1 ≠ k := fun e => hn.1 (List.mem_map.2 ⟨(k, v), h, e.symm⟩)
      rw [List.filter_cons_of_pos (by simp [e])]
      exact ((one_out_key h hn.2).cons a).trans (List.Perm.swap _ _ _)

section
variable {κ : Type} [DecidableEq κ] {kv : κ → Value} {w0 w : World} {b r : Nat} {l todo : List (κ × Value)} {R : HP} {P : Program} {t kt et : TypeId}
/-- 'range m'. -/
theorem Sat.run_range (S : Sat w0 w (gmap kv b l * R)) (ht : P.underlying t = some (.map kt et)) :
    ∃ w', (Instr.range t (.map (some b))).run P w = .ok (.pointer (some ⟨w.heap.size, 0, none⟩)) w' ∧ Sat w0 w' (ranging kv b w.heap.size l l * R) := by
  obtain ⟨es, clock, h1, h2, S1⟩ := S.gmap_open
  refine ⟨w.alloc (.mapIter (some b) clock #[] clock), ?_, ?_⟩
  · simp [Instr.range, run_underlying ht, MapKept.run_getObj_map S1.blk, Result.andThen]
  · unfold ranging
    refine Sat.mk_ex1 (es, clock, #[]) (Sat.mk_wh1 ⟨h1, h2, ?_⟩ ((S1.alloc _).cong (by ac_rfl)))
    rw [List.filter_eq_self.2 (fun e _ => by simp)]
    exact h2
/-- Back to a map. -/
theorem Sat.ranging_end (S : Sat w0 w (ranging kv b r l todo * R)) : Sat w0 w (gmap kv b l * R) := by
  unfold ranging at S
  obtain ⟨m, S⟩ := S.ex1
  obtain ⟨⟨h1, h2, _⟩, S⟩ := S.wh1
  rw [sep_assoc] at S
  exact Sat.gmap_shut h1 h2 (S.p2.drop1)
/-- The step: nothing is left, or an entry has come that was left. -/
theorem Sat.run_next (S : Sat w0 w (ranging kv b r l todo * R)) (K : ∀ x y, kv x = kv y → x = y) (ty : TypeId) :
    (todo = [] ∧ (Instr.next (.pointer (some ⟨r, 0, none⟩)) false ty).run P w = .ok (.tuple #[.bool false]) w) ∨
    ∃ k v w', (k, v) ∈ todo ∧ (Instr.next (.pointer (some ⟨r, 0, none⟩)) false ty).run P w = .ok (.tuple #[.bool true, kv k, v]) w' ∧
      (Instr.entry (.pointer (some ⟨r, 0, none⟩))).run P w' = .ok (.tuple #[kv k, v]) w' ∧ Sat w0 w' (ranging kv b r l (era todo k) * R) := by
  unfold ranging at S
  obtain ⟨⟨es, clock, seen⟩, S⟩ := S.ex1
  obtain ⟨⟨h1, h2, h3⟩, S⟩ := S.wh1
  simp only at h1 h2 h3
  rw [sep_assoc] at S
  have hst := (stamped_iff es clock).1 h1
  have eL : (leftOf es seen).toList = es.toList.filter fun e => !seen.contains e.born := by unfold leftOf; simp
  rcases run_next_at (P := P) w ty r b clock clock seen es clock S.p2.blk S.blk hst.1 (Nat.le_refl _) with ⟨h0, hrun⟩ | ⟨e, he, w1, hal, hrun⟩
  · refine .inl ⟨?_, hrun⟩
    have e0 : (leftOf es seen).toList = [] := by rw [Array.eq_empty_of_size_eq_zero h0]
    rw [← eL, e0] at h3
    exact List.eq_nil_of_length_eq_zero (by simpa using h3.length_eq.symm)
  · obtain ⟨hem, hes⟩ := mem_left he
    rw [eL] at he
    have hm : (e.key, e.val) ∈ todo.map fun p => (kv p.1, p.2) := h3.mem_iff.1 (List.mem_map.2 ⟨e, he, rfl⟩)
    obtain ⟨⟨k, v⟩, hkv, ek⟩ := List.mem_map.1 hm
    injection ek with ek ev
    have S1 : Sat w0 w1 (pts b (.map es clock) * (pts r (.mapIter (some b) clock seen clock) * R)) := by
      rcases hal with rfl | rfl
      · exact S
      · exact S.drew
    have S2 : Sat w0 (ChangeMaps.setBlock w1 r (.mapIter (some b) clock (seen.push e.born) clock)) (pts r (.mapIter (some b) clock (seen.push e.born) clock) * (pts b (.map es clock) * R)) := S1.p2.putObj
    refine .inr ⟨k, v, _, hkv, by rw [hrun, ← ek, ← ev], ?_, ?_⟩
    · rw [run_entry_at _ r b clock seen es clock e S2.blk S2.p2.blk hem hst.2.1, ← ek, ← ev]
    · unfold ranging
      refine Sat.mk_ex1 (es, clock, seen.push e.born) (Sat.mk_wh1 ⟨h1, h2, ?_⟩ (S2.cong (by ac_rfl)))
      have e2 : ((es.toList.filter fun x => !(seen.push e.born).contains x.born).map fun e => (e.key, e.val)).Perm ((era todo k).map fun p => (kv p.1, p.2)) := by
        have hin : ∀ x ∈ es.toList, (!(seen.push e.born).contains x.born) = (!seen.contains x.born && !decide (x.born = e.born)) := fun x hx => by
          rw [contains_push, Bool.not_or]
          congr 2
        rw [List.filter_congr hin]
        have p3 : (es.toList.filter fun x => !seen.contains x.born).Perm (e :: ((es.toList.filter fun x => !seen.contains x.born).filter fun x => !decide (x.born = e.born))) := one_out he (hst.2.1.sublist (List.filter_sublist.map _))
        have p4 : todo.Perm ((k, v) :: era todo k) := by
          have hn : (todo.map (·.1)).Nodup := by
            have hk := (h1.2.2.sublist ((List.filter_sublist (p := fun e => !seen.contains e.born)).map MapEntry.key))
            have q1 : (((es.toList.filter fun e => !seen.contains e.born).map MapEntry.key)).Perm ((todo.map (·.1)).map kv) := by
              have := h3.map (·.1)
              simpa [List.map_map, Function.comp_def] using this
            exact (List.pairwise_map.1 (q1.nodup_iff.1 hk)).imp fun h e => h (by rw [e])
          exact one_out_key hkv hn
        rw [List.filter_filter, show (fun x : MapEntry => !decide (x.born = e.born) && !seen.contains x.born) = fun x => (!seen.contains x.born && !decide (x.born = e.born)) from funext fun x => Bool.and_comm _ _] at p3
        have q := (p3.map fun e => (e.key, e.val)).symm.trans (h3.trans (p4.map fun p => (kv p.1, p.2)))
        simp only [List.map_cons] at q
        rw [show kv k = e.key from ek, show v = e.val from ev] at q
        exact q.cons_inv
      exact e2
end

section
variable {κ : Type} [DecidableEq κ] {kv : κ → Value} {w0 : World} {b r : Nat} {l todo : List (κ × Value)} {R : HP} {P : Program} (w : World) {ops : Array Oper} {rest : List Oper} {o : Oper} {a : Act} {Q : Exit → Act → World → Prop}
/-- 'range m', at the operation. -/
theorem wpList_range_sl (hg : o.guard = none) (m : Operand) (t : TypeId) (hop : o.op = Op.range t m) (k e : TypeId) (ht : P.underlying t = some (.map k e)) (hm : a.eval m = .map (some b)) (S : Sat w0 w (gmap kv b l * R))
    (hK : ∀ w' r, Sat w0 w' (ranging kv b r l l * R) → wpList P ops Q rest (a.put o.dst (.pointer (some ⟨r, 0, none⟩))) w') :
    wpList P ops Q (o :: rest) a w := by
  refine wpList_plain hg fun K' hK' => ?_
  obtain ⟨w', hrun, S'⟩ := S.run_range ht
  unfold Oper.wp
  simp [execOp, hop, hm, hrun, Result.andThen]
  exact hK' _ _ (hK w' _ S')
/-- The step, at the operation. -/
theorem wpList_next_sl (hg : o.guard = none) (it : Operand) (hop : o.op = Op.next it false) (K : ∀ x y, kv x = kv y → x = y) (hit : a.eval it = .pointer (some ⟨r, 0, none⟩)) (S : Sat w0 w (ranging kv b r l todo * R))
    (hDone : todo = [] → wpList P ops Q rest (a.put o.dst (.tuple #[.bool false])) w)
    (hMore : ∀ k v w', (k, v) ∈ todo → (Instr.entry (.pointer (some ⟨r, 0, none⟩))).run P w' = .ok (.tuple #[kv k, v]) w' → Sat w0 w' (ranging kv b r l (era todo k) * R) → wpList P ops Q rest (a.put o.dst (.tuple #[.bool true, kv k, v])) w') :
    wpList P ops Q (o :: rest) a w := by
  refine wpList_plain hg fun K' hK' => ?_
  unfold Oper.wp
  rcases S.run_next (P := P) K o.type with ⟨h0, hrun⟩ | ⟨k, v, w', hm, hrun, hen, S'⟩
  · simp [execOp, hop, hit, hrun, Result.andThen]
    exact hK' _ _ (hDone h0)
  · simp [execOp, hop, hit, hrun, Result.andThen]
    exact hK' _ _ (hMore k v w' hm hen S')
end
end Go.Sl
