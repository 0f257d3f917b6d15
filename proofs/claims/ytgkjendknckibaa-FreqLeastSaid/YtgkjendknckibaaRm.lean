/-
  A map of whole numbers to orders, owned, told by a function of the number: a number whose order has something is there.
-/
import Derived.Test.YtgkjendknckibaaOrd
namespace Go.Sl
open Go.RowKit Go.MapKept
set_option linter.unusedVariables false
set_option linter.unusedSectionVars false

/-- What each number's order has. -/
abbrev RF := Int → List ByteArray
def rent (f : RF) (x : Int × Nat) : HP := ord x.2 (f x.1)
def rout (rl : List (Int × Nat)) : List (Int × Value) := rl.map fun x => (x.1, pt x.2)
/-- Block rb is a map to orders that have what f says. -/
def rmap (rb : Nat) (f : RF) : HP := ex fun rl : List (Int × Nat) => wh ((rl.map (·.1)).Nodup ∧ ∀ n, f n ≠ [] → n ∈ rl.map (·.1)) (gmap (Value.int .i64) rb (rout rl) * star (rl.map (rent f)))
/-- The same, but for n's order, o, which is told apart. -/
def rbut (rb : Nat) (f : RF) (n : Int) (o : Nat) : HP :=
  ex fun rl : List (Int × Nat) => wh ((((n, o) :: rl).map (·.1)).Nodup ∧ ∀ n', n' ≠ n → f n' ≠ [] → n' ∈ rl.map (·.1)) (gmap (Value.int .i64) rb (rout ((n, o) :: rl)) * star (rl.map (rent f)))

/-- Nobody is at n. -/
def rnone (rb : Nat) (f : RF) (n : Int) : HP := ex fun rl : List (Int × Nat) => wh ((rl.map (·.1)).Nodup ∧ (∀ n', f n' ≠ [] → n' ∈ rl.map (·.1)) ∧ n ∉ rl.map (·.1)) (gmap (Value.int .i64) rb (rout rl) * star (rl.map (rent f)))

theorem rent_congr {f g : RF} {rl : List (Int × Nat)} (h : ∀ n ∈ rl.map (·.1), f n = g n) : rl.map (rent f) = rl.map (rent g) := by
  refine List.map_congr_left fun x hx => ?_
  unfold rent
  rw [h x.1 (List.mem_map.2 ⟨x, hx, rfl⟩)]
theorem rout_fst (rl : List (Int × Nat)) : (rout rl).map (·.1) = rl.map (·.1) := by simp [rout, List.map_map, Function.comp_def]
theorem rout_none {rl : List (Int × Nat)} {n : Int} (h : n ∉ rl.map (·.1)) : lk (rout rl) n = none :=
  lk_none fun p hp e => h (by rw [← rout_fst]; exact List.mem_map.2 ⟨p, hp, e⟩)
theorem rout_era {rl : List (Int × Nat)} {n : Int} (h : n ∉ rl.map (·.1)) : era (rout rl) n = rout rl :=
  List.filter_eq_self.2 fun p hp => by
    simp only [Bool.not_eq_true', decide_eq_false_iff_not]
    exact fun e => h (by rw [← rout_fst]; exact List.mem_map.2 ⟨p, hp, e⟩)

section
variable {w0 w : World} {rb o : Nat} {f g : RF} {n : Int} {R : HP} {P : Program} {t kt et : TypeId}
theorem Sat.rmap_made (S : Sat w0 w R) : Sat w0 (w.alloc (.map #[] 0)) (rmap w.heap.size (fun _ => []) * R) := by
  unfold rmap
  refine Sat.mk_ex1 [] (Sat.mk_wh1 ⟨by simp, by simp⟩ ?_)
  exact (S.gmap_made (κ := Int) (kv := Value.int .i64)).cong (by simp only [rout, List.map_nil, star_nil, mul_emp])
/-- 'm[n]': nobody is there; or an order. -/
theorem Sat.rmap_get (S : Sat w0 w (rmap rb f * R)) (n : Int) (ht : P.underlying t = some (.map kt et)) (hk : P.underlying kt = some (.int .i64)) (hz : ∀ w, (zeroValue et).run P w = .ok (.pointer none) w) :
    ((Instr.lookup t (.map (some rb)) (.int .i64 n) false).run P w = .ok (.pointer none) w ∧ f n = [] ∧ Sat w0 w (rnone rb f n * R)) ∨
    ∃ o, (Instr.lookup t (.map (some rb)) (.int .i64 n) false).run P w = .ok (pt o) w ∧ Sat w0 w (ord o (f n) * (rbut rb f n o * R)) := by
  obtain ⟨rl, S⟩ := S.ex1
  obtain ⟨⟨h1, h2⟩, S⟩ := S.wh1
  have S0 := S
  rw [sep_assoc] at S
  have hl := S.run_lookup (keys_int .i64) ht hk hz false n
  by_cases hm : n ∈ rl.map (·.1)
  · right
    obtain ⟨⟨n', o⟩, hx, rfl⟩ := List.mem_map.1 hm
    rw [lk_some (l := rout rl) (v := pt o) (by rw [rout_fst]; exact h1) (List.mem_map.2 ⟨(n', o), hx, rfl⟩)] at hl
    refine ⟨o, hl, ?_⟩
    obtain ⟨pre, post, rfl⟩ := List.append_of_mem hx
    have hp : (pre ++ (n', o) :: post).Perm ((n', o) :: (pre ++ post)) := List.perm_middle
    have h1' : (((n', o) :: (pre ++ post)).map (·.1)).Nodup := (hp.map _).nodup_iff.1 h1
    unfold rbut
    rw [sep_left]
    refine Sat.mk_ex1 (pre ++ post) (Sat.mk_wh1 ⟨h1', fun k2 hne hk2 => ?_⟩ (S.cong ?_))
    · have := h2 k2 hk2
      simp only [List.map_append, List.map_cons, List.mem_append, List.mem_cons] at this ⊢
      rcases this with h | h | h
      · exact .inl h
      · exact absurd h hne
      · exact .inr h
    · rw [gmap_perm (l := rout (pre ++ (n', o) :: post)) (hp.map _), star_perm (hp.map (rent f)), List.map_cons (f := rent f), star_cons]
      show gmap (Value.int .i64) rb (rout ((n', o) :: (pre ++ post))) * (rent f (n', o) * star (List.map (rent f) (pre ++ post)) * R) = gmap (Value.int .i64) rb (rout ((n', o) :: (pre ++ post))) * star (List.map (rent f) (pre ++ post)) * (rent f (n', o) * R)
      ac_rfl
  · left
    rw [rout_none hm] at hl
    refine ⟨hl, Classical.byContradiction fun h => hm (h2 n h), ?_⟩
    unfold rnone
    exact Sat.mk_ex1 rl (Sat.mk_wh1 ⟨h1, h2, hm⟩ S0)
theorem Sat.rnone_back (S : Sat w0 w (rnone rb f n * R)) : Sat w0 w (rmap rb f * R) := by
  obtain ⟨rl, S⟩ := S.ex1
  obtain ⟨⟨h1, h2, h3⟩, S⟩ := S.wh1
  unfold rmap
  exact Sat.mk_ex1 rl (Sat.mk_wh1 ⟨h1, h2⟩ S)
/-- 'm[n] = o', where nobody is. -/
theorem Sat.rnone_ins (S : Sat w0 w (rnone rb f n * R)) (ht : P.underlying t = some (.map kt et)) (hk : P.underlying kt = some (.int .i64)) (o : Nat) :
    ∃ w', (Instr.mapUpdate t (.map (some rb)) (.int .i64 n) (pt o)).run P w = .ok () w' ∧ Sat w0 w' (rbut rb f n o * R) := by
  obtain ⟨rl, S⟩ := S.ex1
  obtain ⟨⟨h1, h2, h3⟩, S⟩ := S.wh1
  rw [sep_assoc] at S
  obtain ⟨w', hr, S'⟩ := S.run_mapUpdate (keys_int .i64) ht hk n (pt o)
  refine ⟨w', hr, ?_⟩
  unfold rbut
  refine Sat.mk_ex1 rl (Sat.mk_wh1 ⟨by rw [List.map_cons, List.nodup_cons]; exact ⟨h3, h1⟩, fun k2 _ => h2 k2⟩ (S'.cong ?_))
  have e : ins (rout rl) n (pt o) = rout ((n, o) :: rl) := by unfold ins; rw [rout_era h3]; rfl
  rw [e]
  ac_rfl
theorem Sat.rbut_lookup (S : Sat w0 w (rbut rb f n o * R)) (ht : P.underlying t = some (.map kt et)) (hk : P.underlying kt = some (.int .i64)) (hz : ∀ w, (zeroValue et).run P w = .ok (.pointer none) w) :
    (Instr.lookup t (.map (some rb)) (.int .i64 n) false).run P w = .ok (pt o) w := by
  obtain ⟨rl, S⟩ := S.ex1
  obtain ⟨⟨h1, h2⟩, S⟩ := S.wh1
  rw [sep_assoc] at S
  have hl := S.run_lookup (keys_int .i64) ht hk hz false n
  rw [lk_some (l := rout ((n, o) :: rl)) (v := pt o) (by rw [rout_fst]; exact h1) (List.mem_map.2 ⟨(n, o), by simp, rfl⟩)] at hl
  exact hl
theorem Sat.rbut_close {l : List ByteArray} (hf : ∀ n', n' ≠ n → g n' = f n') (hl : g n = l) (S : Sat w0 w (ord o l * (rbut rb f n o * R))) : Sat w0 w (rmap rb g * R) := by
  rw [sep_left] at S
  obtain ⟨rl, S⟩ := S.ex1
  obtain ⟨⟨h1, h2⟩, S⟩ := S.wh1
  rw [List.map_cons, List.nodup_cons] at h1
  unfold rmap
  refine Sat.mk_ex1 ((n, o) :: rl) (Sat.mk_wh1 ⟨by rw [List.map_cons, List.nodup_cons]; exact h1, fun k2 hk2 => ?_⟩ (S.cong ?_))
  · by_cases e : k2 = n
    · subst e; simp
    · rw [hf k2 e] at hk2
      rw [List.map_cons, List.mem_cons]
      exact .inr (h2 k2 e hk2)
  · rw [List.map_cons, star_cons, rent_congr (f := f) (g := g) (fun k2 hk2 => (hf k2 (fun e => h1.1 (e ▸ hk2))).symm)]
    simp only [rent, hl]
    ac_rfl
/-- 'clear(m)'. -/
theorem Sat.rmap_clear (S : Sat w0 w (rmap rb f * R)) (ht : P.underlying t = some (.map kt et)) (ty : TypeId) :
    ∃ w', (Builtin.clear_ #[t] ty #[.map (some rb)]).run P w = .ok (.tuple #[]) w' ∧ Sat w0 w' (rmap rb (fun _ => []) * R) := by
  obtain ⟨rl, S⟩ := S.ex1
  obtain ⟨⟨h1, h2⟩, S⟩ := S.wh1
  rw [sep_assoc] at S
  obtain ⟨es, clock, s1, s2, S1⟩ := S.gmap_open
  refine ⟨_, by simp [Builtin.clear_, run_underlying ht, MapKept.run_getObj_map S1.blk, run_setObj_map _ S1.blk, Result.andThen]; rfl, ?_⟩
  unfold rmap
  refine Sat.mk_ex1 [] (Sat.mk_wh1 ⟨by simp, by simp⟩ ?_)
  have S2 := (S1.putObj (o' := .map #[] clock)).p2.drop1
  refine (Sat.gmap_shut (κ := Int) (kv := Value.int .i64) (l := []) (stamped_empty clock) (by simp) S2).cong ?_
  simp only [rout, List.map_nil, star_nil, mul_emp]
end
end Go.Sl
