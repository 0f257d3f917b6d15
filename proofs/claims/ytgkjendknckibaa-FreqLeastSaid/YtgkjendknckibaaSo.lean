/-
  A row that is owned, sorted by slices.SortFunc (elements of one cell): the sort's worlds, in the words of owned blocks. Over any program.
-/
import Derived.Test.YtgkjendknckibaaRow
import Derived.Shelf.SlSortCmp.NoneTotal
namespace Go.Sl
open Go.RowKit Go.Proofs Go.Sort
set_option linter.unusedVariables false
set_option linter.unusedSimpArgs false
section
variable {α : Type} [Inhabited α] {enc : α → Value} {w0 w : World} {e g cap n : Nat} {R : HP}
theorem Sat.row_holds {d : Array α} (S : Sat w0 w (row e 1 (.slice (some ⟨g, 0, none⟩) d.size cap) d.size (d.toList.map enc) * R)) : Holds enc w g 0 d := by
  intro j hj
  obtain ⟨g', e1, hc⟩ := S.row_cells j (enc d[j]!) (by rw [List.getElem?_map, List.getElem?_eq_getElem (by simpa using hj)]; simp [getElem!_pos d j hj])
  injection e1 with e1
  injection e1 with e1
  subst e1
  rw [Nat.zero_add]
  refine ⟨hc, ?_⟩
  obtain ⟨hl, h⟩ := S.row_open
  rcases h with ⟨h0, _⟩ | ⟨g2, cap2, cur, hv, _, _, _, _, S1⟩
  · cases h0
  · injection hv with hv
    injection hv with hv
    injection hv with hv
    subst hv
    exact frz_of S1.blk j
/-- The row rewritten; draws; blocks of the sort's own. -/
theorem Sat.row_world {xs : List Value} {d : Array α} (S : Sat w0 w (row e 1 (.slice (some ⟨g, 0, none⟩) d.size cap) d.size xs * R)) (m : Nat) (os : Array Obj) :
    Sat w0 (sortWorld enc w g 0 m d os) (row e 1 (.slice (some ⟨g, 0, none⟩) d.size cap) d.size (d.toList.map enc) * R) := by
  obtain ⟨hl, h⟩ := S.row_open
  rcases h with ⟨h0, _⟩ | ⟨g2, cap2, cur, hv, hn, hm, hs, ht, S1⟩
  · cases h0
  · injection hv with hv h2 h3
    injection hv with hv
    injection hv with hv
    subst hv h3
    have hcs : (putCells enc 0 d cur).size = cap * 1 := by simp [putCells, hs]
    have htk : (putCells enc 0 d cur).toList.take (d.size * 1) = d.toList.map enc := by
      refine List.ext_getElem (by simp [putCells, hs]; omega) fun j h1 h2 => ?_
      have hj : j < d.size := by simpa using h2
      simp [putCells, hj, getElem!_pos d j hj]
    have S2 : Sat w0 (putRow enc (Sort.ahead w m) g 0 d) (pts g (.cells (putCells enc 0 d cur) e (0, 0)) * R) := by
      refine S1.put rfl rfl rfl (by simp [Sort.ahead]) ?_ ?_
      · simp only [putRow, mapBlock, Sort.ahead, Array.getElem?_modify, if_true]
        rw [S1.blk]; rfl
      · intro k hk hne
        simp only [putRow, mapBlock, Sort.ahead, Array.getElem?_modify]
        rw [if_neg (fun e => hne e.symm)]
    have hb : Below (putRow enc (Sort.ahead w m) g 0 d).heap.size (putRow enc (Sort.ahead w m) g 0 d) (sortWorld enc w g 0 m d os) :=
      ⟨rfl, rfl, rfl, by simp [sortWorld, grow], fun k hk => by simp only [sortWorld, grow]; rw [Array.getElem?_append_left hk]⟩
    exact (Sat.row_shut (by simp) hn hm hcs htk S2).below hb
end
end Go.Sl
