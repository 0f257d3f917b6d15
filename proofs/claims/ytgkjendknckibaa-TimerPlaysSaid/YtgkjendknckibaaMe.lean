/-
  A map that is owned: 'a[i], m[k] = ..': an entry is found, and stored into. Over any program.
-/
import Derived.Test.YtgkjendknckibaaMp
namespace Go.Sl
open Go.RowKit Go.MapKept
set_option linter.unusedVariables false
set_option linter.unusedSectionVars false
set_option linter.unusedSimpArgs false
section
variable {κ : Type} [DecidableEq κ] {kv : κ → Value} {d : TypeDesc} {w0 w : World} {b : Nat} {l l' : List (κ × Value)} {R : HP} {P : Program} {t kt et : TypeId}
theorem heap_same {w : World} {b : Nat} {o : Obj} (h : w.heap[b]? = some o) : ({ w with heap := w.heap.setIfInBounds b o } : World) = w := by
  have : w.heap.setIfInBounds b o = w.heap := by
    apply Array.ext_getElem?
    intro i
    rw [Array.getElem?_setIfInBounds]
    by_cases e : b = i
    · subst e; rw [if_pos rfl]
      have h2 := Array.getElem?_eq_some_iff.1 h
      rw [if_pos h2.1, h]
    · rw [if_neg e]
  rw [this]
theorem modify_same {es : Array MapEntry} {j : Nat} {e : MapEntry} {f : MapEntry → MapEntry} (h : es[j]? = some e) (hf : f e = e) : es.modify j f = es := by
  apply Array.ext_getElem?
  intro i
  rw [Array.getElem?_modify]
  by_cases e' : j = i
  · subst e'; rw [if_pos rfl, h]; simp [hf]
  · rw [if_neg e']
theorem findIdx_born {es : Array MapEntry} {clock j : Nat} {e : MapEntry} (h1 : Stamped es clock) (h : es[j]? = some e) : es.findIdx? (fun x => (x.born : Int) == (e.born : Int)) = some j := by
  obtain ⟨hj, he⟩ := Array.getElem?_eq_some_iff.1 h
  rw [Array.findIdx?_eq_some_iff_getElem]
  refine ⟨hj, by simp [he], fun i hi => ?_⟩
  have hn := h1.2.1
  rw [List.Nodup, List.pairwise_map] at hn
  have := List.pairwise_iff_getElem.1 hn i j (by simp; omega) (by simpa using hj) hi
  simp only [Array.getElem_toList] at this
  rw [he] at this
  simp only [beq_iff_eq]
  omega
/-- 'm[k]' as a place, the key being there. -/
theorem Sat.run_entry (S : Sat w0 w (gmap kv b l * R)) (K : Keys d kv) (ht : P.underlying t = some (.map kt et)) (hk : P.underlying kt = some d) {k : κ} {v : Value} (hv : lk l k = some v) :
    ∃ s : Int, (Instr.mapEntry t (.map (some b)) (kv k)).run P w = .ok (.tuple #[v, .int .i64 s]) w ∧ ∀ u, ∃ w', (Instr.entryStore t (.map (some b)) (.int .i64 s) u).run P w = .ok () w' ∧ Sat w0 w' (gmap kv b (ins l k u) * R) := by
  obtain ⟨es, clock, h1, h2, S⟩ := S.gmap_open
  rcases find_gmap h1 h2 K hk w k with ⟨a, _, _⟩ | ⟨v', j, e, a, f, c, g, i⟩
  · rw [hv] at a; cases a
  · rw [hv] at a
    injection a with a
    subst a
    have hj : es[j]? = some e := by simpa using c
    obtain ⟨hjl, hje⟩ := List.getElem?_eq_some_iff.1 c
    refine ⟨e.born, ?_, fun u => ?_⟩
    · have h3 : es.modify j (fun e => { e with key := kv k }) = es := modify_same hj (by rw [← g])
      have h4 : ({ w with heap := w.heap.setIfInBounds b (.map (es.modify j (fun e => { e with key := kv k })) clock) } : World) = w := by rw [h3]; exact heap_same S.blk
      simp [Instr.mapEntry, run_underlying ht, MapKept.run_getObj_map S.blk, run_checkKey hk (K.kind k), f, hj, g, run_keyThatStays (K.kind k), run_setObj_map _ S.blk, Result.andThen]
      exact ⟨rfl, h4⟩
    · have h3 := findIdx_born h1 hj
      refine ⟨_, by simp [Instr.entryStore, MapKept.run_getObj_map S.blk, asInt, asIntOf, h3, run_setObj_map _ S.blk, Result.andThen]; rfl, ?_⟩
      refine Sat.gmap_shut (stamped_modify h1 j (fun e => { e with val := u }) (fun _ _ => rfl) (fun e' _ he' => rfl)) ?_ S.putObj
      have e2 : (es.modify j fun e => { e with val := u }).toList = es.toList.set j { e with val := u } := by
        rw [Array.toList_modify]
        exact modify_set_aux _ _ _ _ c
      rw [e2]
      have p1 : (es.toList.set j { e with val := u }).Perm ({ e with val := u } :: es.toList.eraseIdx j) := set_perm_aux _ _ _ hjl
      refine (p1.map _).trans ?_
      unfold ins
      simp only [List.map_cons]
      rw [g]
      exact (perm_del h1 h2 K k c g).cons _
end
end Go.Sl
