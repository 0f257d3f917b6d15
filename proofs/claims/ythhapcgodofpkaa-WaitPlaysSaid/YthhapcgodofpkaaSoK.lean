/-
  A row of flat elements that is owned, sorted by slices.SortFunc: the sort's worlds, in the words of owned blocks. Over any program.
-/
import Derived.Test.YthhapcgodofpkaaRw
import Derived.Shelf.SlSortCmp.NoneTotal
namespace Go.Sl
open Go.RowKit Go.Proofs Go.Sort Go.Proofs.YthhapcgodofpkaaW.PrintWords
set_option linter.unusedVariables false
set_option linter.unusedSimpArgs false
section
variable {α : Type} [Inhabited α] {dd : Kd α} {enc : α → List Value} {w0 w : World} {e g cap n : Nat} {R : HP}
theorem flatK_list (F : Flat dd enc) (d : Array α) : (flatK enc dd.sz d).toList = d.toList.flatMap enc := by
  have hl : (d.toList.flatMap enc).length = d.size * dd.sz := by rw [flat_length F]; simp
  refine List.ext_getElem (by rw [hl]; simp) fun t h1 h2 => ?_
  have ht : t < d.size * dd.sz := by rw [hl] at h2; exact h2
  have h0 := F.pos
  have hj : t / dd.sz < d.size := Nat.div_lt_of_lt_mul (by rw [Nat.mul_comm]; exact ht)
  have hi : t % dd.sz < dd.sz := Nat.mod_lt _ h0
  have hx : (enc d[t / dd.sz])[t % dd.sz]? = some ((enc d[t / dd.sz])[t % dd.sz]'(by rw [F.len]; exact hi)) := List.getElem?_eq_getElem _
  have hc := flat_cell F (xs := d.toList) (j := t / dd.sz) (i := t % dd.sz) (by simp [hj]) hx
  rw [Nat.mul_comm, Nat.div_add_mod] at hc
  rw [List.getElem?_eq_getElem h2] at hc
  injection hc with hc
  rw [hc]
  have h3 := get_flatK enc dd.sz d t ht
  rw [getElem!_pos _ t (by simpa using ht), getElem!_pos d _ hj, getElem!_pos _ _ (by rw [F.len]; exact hi)] at h3
  rw [Array.getElem_toList]
  exact h3
theorem Sat.row_holdsK (F : Flat dd enc) {d : Array α} (S : Sat w0 w (row e dd.sz (.slice (some ⟨g, 0, none⟩) d.size cap) d.size (d.toList.flatMap enc) * R)) : HoldsK enc dd.sz w g 0 d := by
  intro j hj
  rw [size_flatK] at hj
  have hl : (d.toList.flatMap enc).length = d.size * dd.sz := by rw [flat_length F]; simp
  have e2 := flatK_list F d
  have hv : (d.toList.flatMap enc)[j]? = some (flatK enc dd.sz d)[j]! := by
    rw [← e2, getElem!_pos _ j (by simpa using hj)]
    simp [hj]
  obtain ⟨g', e1, hc⟩ := S.row_cells j _ hv
  injection e1 with e1
  injection e1 with e1
  subst e1
  rw [Nat.zero_add]
  refine ⟨hc, ?_⟩
  obtain ⟨_, h⟩ := S.row_open
  rcases h with ⟨h0, _⟩ | ⟨g2, cap2, cur, hv, _, _, _, _, S1⟩
  · cases h0
  · injection hv with hv
    injection hv with hv
    injection hv with hv
    subst hv
    exact frz_of S1.blk j
/-- The row rewritten; draws; blocks of the sort's own. -/
theorem Sat.row_worldK (F : Flat dd enc) {xs : List Value} {d : Array α} (S : Sat w0 w (row e dd.sz (.slice (some ⟨g, 0, none⟩) d.size cap) d.size xs * R)) (m : Nat) (os : Array Obj) :
    Sat w0 (sortWorldK enc dd.sz w g 0 m d os) (row e dd.sz (.slice (some ⟨g, 0, none⟩) d.size cap) d.size (d.toList.flatMap enc) * R) := by
  obtain ⟨hl, h⟩ := S.row_open
  rcases h with ⟨h0, _⟩ | ⟨g2, cap2, cur, hv, hn, hm, hs, ht, S1⟩
  · cases h0
  · injection hv with hv h2 h3
    injection hv with hv
    injection hv with hv
    subst hv h3
    obtain ⟨G, hG⟩ : ∃ G : Array Value, G = flatK enc dd.sz d := ⟨_, rfl⟩
    have hGs : G.size = d.size * dd.sz := by rw [hG, size_flatK]
    have hle : d.size * dd.sz ≤ cap * dd.sz := Nat.mul_le_mul_right _ hn
    have hcs : (putCells id 0 G cur).size = cap * dd.sz := by simp [putCells, hs]
    have htk : (putCells id 0 G cur).toList.take (d.size * dd.sz) = d.toList.flatMap enc := by
      rw [← flatK_list F d, ← hG]
      refine List.ext_getElem (by rw [List.length_take, Array.length_toList, hcs, Array.length_toList, hGs]; exact Nat.min_eq_left hle) fun j h1 h2 => ?_
      have hj : j < G.size := by simpa using h2
      simp [putCells, hj, getElem!_pos G j hj]
    have S2 : Sat w0 (putRowK enc dd.sz (Sort.ahead w m) g 0 d) (pts g (.cells (putCells id 0 G cur) e (0, 0)) * R) := by
      rw [hG]
      refine S1.put rfl rfl rfl (by simp [putRowK, putRow, mapBlock, Sort.ahead]) ?_ ?_
      · simp only [putRowK, putRow, mapBlock, Sort.ahead, Array.getElem?_modify, if_true]
        rw [S1.blk]; rfl
      · intro k hk hne
        simp only [putRowK, putRow, mapBlock, Sort.ahead, Array.getElem?_modify]
        rw [if_neg (fun e => hne e.symm)]
    have hb : Below (putRowK enc dd.sz (Sort.ahead w m) g 0 d).heap.size (putRowK enc dd.sz (Sort.ahead w m) g 0 d) (sortWorldK enc dd.sz w g 0 m d os) :=
      ⟨rfl, rfl, rfl, by simp [sortWorldK, grow], fun k hk => by simp only [sortWorldK, grow]; rw [Array.getElem?_append_left hk]⟩
    exact (Sat.row_shut (by rw [flat_length F]; simp) hn hm hcs htk S2).below hb
end
end Go.Sl
