/-
  A map of maps that is owned, told by a function of the outer key: an outer key is there just if its inner map has something. Over any program.
-/
import Derived.Test.YthhapcgodofpkaaMp
namespace Go.Sl
open Go.RowKit Go.MapKept
set_option linter.unusedVariables false
set_option linter.unusedSectionVars false

/-- What an outer key's inner map has. -/
abbrev KF := ByteArray → List (Int × Value)
def kment (f : KF) (x : ByteArray × Nat) : HP := gmap (Value.int .i64) x.2 (f x.1)
def kmout (kl : List (ByteArray × Nat)) : List (ByteArray × Value) := kl.map fun x => (x.1, .map (some x.2))
/-- Block kb is a map to maps that have what f says. -/
def mmap (kb : Nat) (f : KF) : HP := ex fun kl : List (ByteArray × Nat) => wh ((kl.map (·.1)).Nodup ∧ ∀ k, k ∈ kl.map (·.1) ↔ f k ≠ []) (gmap Value.string kb (kmout kl) * star (kl.map (kment f)))
/-- The same, but for the inner map of k, which lies in block p and is told apart. -/
def kbut (kb : Nat) (f : KF) (k : ByteArray) (p : Nat) : HP :=
  ex fun kl : List (ByteArray × Nat) => wh ((((k, p) :: kl).map (·.1)).Nodup ∧ ∀ k', k' ≠ k → (k' ∈ kl.map (·.1) ↔ f k' ≠ [])) (gmap Value.string kb (kmout ((k, p) :: kl)) * star (kl.map (kment f)))

theorem kment_congr {f g : KF} {kl : List (ByteArray × Nat)} (h : ∀ k ∈ kl.map (·.1), f k = g k) : kl.map (kment f) = kl.map (kment g) := by
  refine List.map_congr_left fun x hx => ?_
  unfold kment
  rw [h x.1 (List.mem_map.2 ⟨x, hx, rfl⟩)]
theorem kmout_fst (kl : List (ByteArray × Nat)) : (kmout kl).map (·.1) = kl.map (·.1) := by simp [kmout, List.map_map, Function.comp_def]
theorem kmout_none {kl : List (ByteArray × Nat)} {k : ByteArray} (h : k ∉ kl.map (·.1)) : lk (kmout kl) k = none :=
  lk_none fun p hp e => h (by rw [← kmout_fst]; exact List.mem_map.2 ⟨p, hp, e⟩)
theorem kmout_era {kl : List (ByteArray × Nat)} {k : ByteArray} (h : k ∉ kl.map (·.1)) : era (kmout kl) k = kmout kl :=
  List.filter_eq_self.2 fun p hp => by
    simp only [Bool.not_eq_true', decide_eq_false_iff_not]
    exact fun e => h (by rw [← kmout_fst]; exact List.mem_map.2 ⟨p, hp, e⟩)

section
variable {w0 w : World} {kb p : Nat} {f g : KF} {k : ByteArray} {R : HP} {P : Program} {t kt et : TypeId}
theorem mmap_cong (h : ∀ k, f k = g k) : mmap kb f = mmap kb g := by rw [funext h]
theorem Sat.mmap_made (S : Sat w0 w R) : Sat w0 (w.alloc (.map #[] 0)) (mmap w.heap.size (fun _ => []) * R) := by
  unfold mmap
  refine Sat.mk_ex1 [] (Sat.mk_wh1 ⟨by simp, by simp⟩ ?_)
  exact (S.gmap_made (κ := ByteArray) (kv := Value.string)).cong (by simp only [kmout, List.map_nil, star_nil, mul_emp])
theorem Sat.mmap_none (S : Sat w0 w (mmap kb f * R)) (h : f k = []) (ht : P.underlying t = some (.map kt et)) (hk : P.underlying kt = some .string) (hz : ∀ w, (zeroValue et).run P w = .ok (.map none) w) :
    (Instr.lookup t (.map (some kb)) (.string k) false).run P w = .ok (.map none) w := by
  obtain ⟨kl, S⟩ := S.ex1
  obtain ⟨⟨h1, h2⟩, S⟩ := S.wh1
  rw [sep_assoc] at S
  have := S.run_lookup keys_string ht hk hz false k
  rw [kmout_none (fun hm => (h2 k).1 hm h)] at this
  exact this
theorem Sat.mmap_some (S : Sat w0 w (mmap kb f * R)) (h : f k ≠ []) (ht : P.underlying t = some (.map kt et)) (hk : P.underlying kt = some .string) (hz : ∀ w, (zeroValue et).run P w = .ok (.map none) w) :
    ∃ p, (Instr.lookup t (.map (some kb)) (.string k) false).run P w = .ok (.map (some p)) w ∧ Sat w0 w (gmap (Value.int .i64) p (f k) * (kbut kb f k p * R)) := by
  obtain ⟨kl, S⟩ := S.ex1
  obtain ⟨⟨h1, h2⟩, S⟩ := S.wh1
  rw [sep_assoc] at S
  obtain ⟨⟨k', p⟩, hx, rfl⟩ := List.mem_map.1 ((h2 k).2 h)
  have hl := S.run_lookup keys_string ht hk hz false k'
  rw [lk_some (l := kmout kl) (v := .map (some p)) (by rw [kmout_fst]; exact h1) (List.mem_map.2 ⟨(k', p), hx, rfl⟩)] at hl
  refine ⟨p, hl, ?_⟩
  obtain ⟨pre, post, rfl⟩ := List.append_of_mem hx
  have hp : (pre ++ (k', p) :: post).Perm ((k', p) :: (pre ++ post)) := List.perm_middle
  have h1' : (((k', p) :: (pre ++ post)).map (·.1)).Nodup := (hp.map _).nodup_iff.1 h1
  unfold kbut
  rw [sep_left]
  refine Sat.mk_ex1 (pre ++ post) (Sat.mk_wh1 ⟨h1', fun k2 hne => ?_⟩ (S.cong ?_))
  · rw [← h2 k2]
    simp [List.map_append, hne]
  · rw [gmap_perm (l := kmout (pre ++ (k', p) :: post)) (hp.map _), star_perm (hp.map (kment f)), List.map_cons (f := kment f), star_cons]
    show _ = gmap Value.string kb (kmout ((k', p) :: (pre ++ post))) * star (List.map (kment f) (pre ++ post)) * (kment f (k', p) * R)
    show gmap Value.string kb (kmout ((k', p) :: (pre ++ post))) * (kment f (k', p) * star (List.map (kment f) (pre ++ post)) * R) = _
    ac_rfl
theorem Sat.kbut_lookup (S : Sat w0 w (kbut kb f k p * R)) (ht : P.underlying t = some (.map kt et)) (hk : P.underlying kt = some .string) (hz : ∀ w, (zeroValue et).run P w = .ok (.map none) w) :
    (Instr.lookup t (.map (some kb)) (.string k) false).run P w = .ok (.map (some p)) w := by
  obtain ⟨kl, S⟩ := S.ex1
  obtain ⟨⟨h1, h2⟩, S⟩ := S.wh1
  rw [sep_assoc] at S
  have hl := S.run_lookup keys_string ht hk hz false k
  rw [lk_some (l := kmout ((k, p) :: kl)) (v := .map (some p)) (by rw [kmout_fst]; exact h1) (List.mem_map.2 ⟨(k, p), by simp, rfl⟩)] at hl
  exact hl
theorem Sat.kbut_close {l : List (Int × Value)} (hf : ∀ k', k' ≠ k → g k' = f k') (hk : g k = l) (hne : l ≠ []) (S : Sat w0 w (gmap (Value.int .i64) p l * (kbut kb f k p * R))) : Sat w0 w (mmap kb g * R) := by
  rw [sep_left] at S
  obtain ⟨kl, S⟩ := S.ex1
  obtain ⟨⟨h1, h2⟩, S⟩ := S.wh1
  rw [List.map_cons, List.nodup_cons] at h1
  unfold mmap
  refine Sat.mk_ex1 ((k, p) :: kl) (Sat.mk_wh1 ⟨by rw [List.map_cons, List.nodup_cons]; exact h1, fun k2 => ?_⟩ (S.cong ?_))
  · by_cases e : k2 = k
    · subst e; simp [hk, hne]
    · rw [List.map_cons, List.mem_cons, hf k2 e, ← h2 k2 e]
      exact ⟨fun h => h.resolve_left e, .inr⟩
  · rw [List.map_cons, star_cons, kment_congr (f := f) (g := g) (fun k2 hk2 => (hf k2 (fun e => h1.1 (e ▸ hk2))).symm)]
    simp only [kment, hk]
    ac_rfl
theorem Sat.mmap_ins (S : Sat w0 w (mmap kb f * R)) (h : f k = []) (ht : P.underlying t = some (.map kt et)) (hk : P.underlying kt = some .string) (p : Nat) :
    ∃ w', (Instr.mapUpdate t (.map (some kb)) (.string k) (.map (some p))).run P w = .ok () w' ∧ Sat w0 w' (kbut kb f k p * R) := by
  obtain ⟨kl, S⟩ := S.ex1
  obtain ⟨⟨h1, h2⟩, S⟩ := S.wh1
  rw [sep_assoc] at S
  have hn : k ∉ kl.map (·.1) := fun hm => (h2 k).1 hm h
  obtain ⟨w', hr, S'⟩ := S.run_mapUpdate keys_string ht hk k (.map (some p))
  refine ⟨w', hr, ?_⟩
  unfold kbut
  refine Sat.mk_ex1 kl (Sat.mk_wh1 ⟨by rw [List.map_cons, List.nodup_cons]; exact ⟨hn, h1⟩, fun k2 _ => h2 k2⟩ (S'.cong ?_))
  have e : ins (kmout kl) k (.map (some p)) = kmout ((k, p) :: kl) := by unfold ins; rw [kmout_era hn]; rfl
  rw [e]
  ac_rfl
theorem Sat.kbut_era (S : Sat w0 w (kbut kb f k p * R)) (hf : ∀ k', k' ≠ k → g k' = f k') (hg : g k = []) (ht : P.underlying t = some (.map kt et)) (hk : P.underlying kt = some .string) (ty t2 : TypeId) :
    ∃ w', (Builtin.delete_ #[t, t2] ty #[.map (some kb), .string k]).run P w = .ok (.tuple #[]) w' ∧ Sat w0 w' (mmap kb g * R) := by
  obtain ⟨kl, S⟩ := S.ex1
  obtain ⟨⟨h1, h2⟩, S⟩ := S.wh1
  rw [sep_assoc] at S
  rw [List.map_cons, List.nodup_cons] at h1
  obtain ⟨w', hr, S'⟩ := S.run_delete keys_string ht hk k ty t2
  refine ⟨w', hr, ?_⟩
  unfold mmap
  refine Sat.mk_ex1 kl (Sat.mk_wh1 ⟨h1.2, fun k2 => ?_⟩ (S'.cong ?_))
  · by_cases e : k2 = k
    · subst e; simp only [hg, ne_eq, not_true_eq_false, iff_false]; exact h1.1
    · rw [hf k2 e]; exact h2 k2 e
  · have e : era (kmout ((k, p) :: kl)) k = kmout kl := by
      show era ((k, Value.map (some p)) :: kmout kl) k = _
      have : era ((k, Value.map (some p)) :: kmout kl) k = era (kmout kl) k := by unfold era; rw [List.filter_cons_of_neg (by simp)]
      rw [this, kmout_era h1.1]
    rw [e, kment_congr (f := f) (g := g) (fun k2 hk2 => (hf k2 (fun e => h1.1 (e ▸ hk2))).symm)]
    ac_rfl
end
end Go.Sl
