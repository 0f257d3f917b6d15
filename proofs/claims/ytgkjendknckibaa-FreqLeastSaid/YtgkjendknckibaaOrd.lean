/-
  The contracts of package order's functions.
-/
import Derived.Test.YtgkjendknckibaaProg
import Derived.Test.YtgkjendknckibaaRing
import Derived.Test.YtgkjendknckibaaMp
import Derived.Test.YtgkjendknckibaaRf
import Derived.BigRegion
import Derived.KernelRfl
import Derived.Lib.Hide
import Derived.WalkSpells
import Derived.Deep.Cut
namespace Go.Sl
open Go.RowKit Go.Proofs
set_option linter.unusedVariables false
set_option maxRecDepth 100000

/-- 'cut(x)': x is taken out of its ring. -/
theorem cut_calls {w0 w : World} {e x : Nat} {k : ByteArray} {pre post : List KN} {R : HP} (S : Sat w0 w (ring 121 e (pre ++ (x, k) :: post) * R)) :
    Calls Try.prog 63 #[pt x] w fun en w' => en = .returned (.tuple #[]) ∧ Sat w0 w' (nd 121 x k (lsb pre e) (hdb post e) * (ring 121 e (pre ++ post) * R)) := by
  obtain ⟨h0, h1, h2, h3, h4, ⟨v, h5⟩, h6, h7⟩ := S.ring_cut
  clear S
  generalize lsb pre e = a at *
  generalize hdb post e = c at *
  have H7 := h7.drew
  clear h7
  go_enter Try.func63, Try.ntmps63
  go_wp2
  go_region
  all_goals (go_end0; exact ⟨rfl, H7⟩)

/-- A map's keys and the nodes under them. -/
def kns (ys : List KN) : List (ByteArray × Value) := ys.map fun y => (y.2, pt y.1)
/-- What an order has, in a ring and a map; or it is the zero one. -/
def ordAt (o : Nat) : Option (Nat × Nat × List KN) → HP
  | none => pts o (.cells #[.pointer none, .map none] 105 (0, 0))
  | some (e, m, ys) => pts o (.cells #[pt e, .map (some m)] 105 (0, 0)) * (ring 121 e ys * gmap Value.string m (kns ys))
def ordKeys : Option (Nat × Nat × List KN) → List ByteArray
  | none => []
  | some (_, _, ys) => ys.map (·.2)
/-- The order at o has the keys l, from the oldest on. -/
def ord (o : Nat) (l : List ByteArray) : HP := ex fun s => wh (ordKeys s = l) (ordAt o s)

theorem Sat.ord_open {w0 w : World} {o : Nat} {l : List ByteArray} {R : HP} (S : Sat w0 w (ord o l * R)) :
    (l = [] ∧ Sat w0 w (pts o (.cells #[.pointer none, .map none] 105 (0, 0)) * R)) ∨
    ∃ e m ys, l = ys.map (·.2) ∧ Sat w0 w (pts o (.cells #[pt e, .map (some m)] 105 (0, 0)) * (ring 121 e ys * (gmap Value.string m (kns ys) * R))) := by
  obtain ⟨s, S⟩ := S.ex1
  obtain ⟨h, S⟩ := S.wh1
  cases s with
  | none => exact .inl ⟨h.symm, S⟩
  | some s => obtain ⟨e, m, ys⟩ := s; exact .inr ⟨e, m, ys, h.symm, S.cong (by simp only [ordAt]; ac_rfl)⟩
theorem Sat.ord_shut {w0 w : World} {o e m : Nat} {ys : List KN} {R : HP} (S : Sat w0 w (pts o (.cells #[pt e, .map (some m)] 105 (0, 0)) * (ring 121 e ys * (gmap Value.string m (kns ys) * R)))) :
    Sat w0 w (ord o (ys.map (·.2)) * R) := by
  unfold ord
  exact Sat.mk_ex1 (some (e, m, ys)) (Sat.mk_wh1 rfl (S.cong (by simp only [ordAt]; ac_rfl)))
theorem Sat.ord_zero {w0 w : World} {o : Nat} {R : HP} (S : Sat w0 w (pts o (.cells #[.pointer none, .map none] 105 (0, 0)) * R)) : Sat w0 w (ord o [] * R) := by
  unfold ord
  exact Sat.mk_ex1 none (Sat.mk_wh1 rfl S)

theorem kmap : Try.prog.underlying 103 = some (.map 9 102) := Try.underlying103
theorem kkey : Try.prog.underlying 9 = some .string := Try.underlying9
theorem keql (r : Option Nat) (w : World) : (binOp .eql 103 (.map r) (.map none)).run Try.prog w = .ok (.bool r.isNone) w := run_eql_map_nil w _ _ _ r kmap
theorem kzero (w : World) : (zeroValue 102).run Try.prog w = .ok (.pointer none) w := by kernel_rfl

theorem kns_lk {ys : List KN} {key : ByteArray} (h : key ∉ ys.map (·.2)) : lk (kns ys) key = none :=
  lk_none fun p hp => by
    obtain ⟨y, hy, rfl⟩ := List.mem_map.1 hp
    exact fun e => h (List.mem_map.2 ⟨y, hy, e⟩)
theorem kns_fst (ys : List KN) : (kns ys).map (·.1) = ys.map (·.2) := by simp [kns, List.map_map, Function.comp_def]
theorem kns_has {pre post : List KN} {x : Nat} {key : ByteArray} (hn : ((pre ++ (x, key) :: post).map (·.2)).Nodup) : lk (kns (pre ++ (x, key) :: post)) key = some (pt x) :=
  lk_some (by rw [kns_fst]; exact hn) (List.mem_map.2 ⟨(x, key), by simp, rfl⟩)
theorem Sat.kns_nodup {w0 w : World} {m : Nat} {ys : List KN} {R : HP} (S : Sat w0 w (gmap Value.string m (kns ys) * R)) : (ys.map (·.2)).Nodup := by
  obtain ⟨es, clock, h1, h2, _⟩ := S.gmap_open
  have := nodup_of h1 h2 keys_string
  rwa [kns_fst] at this
/-- A key that is there: where. -/
theorem split_at {ys : List KN} {key : ByteArray} (h : key ∈ ys.map (·.2)) : ∃ pre x post, ys = pre ++ (x, key) :: post := by
  obtain ⟨y, hy, e⟩ := List.mem_map.1 h
  obtain ⟨pre, post, rfl⟩ := List.append_of_mem hy
  exact ⟨pre, y.1, post, by rw [← e]⟩

/-- Is a key there? -/
def hasK (l : List ByteArray) (k : ByteArray) : Bool := l.any fun x => decide (x = k)
theorem hasK_true {l : List ByteArray} {k : ByteArray} (h : k ∈ l) : hasK l k = true := List.any_eq_true.2 ⟨k, h, by simp⟩
theorem hasK_false {l : List ByteArray} {k : ByteArray} (h : k ∉ l) : hasK l k = false := List.any_eq_false.2 fun x hx => by
  simp only [decide_eq_true_eq]; exact fun e => h (e ▸ hx)
theorem hasK_iff {l : List ByteArray} {k : ByteArray} : hasK l k = true ↔ k ∈ l := ⟨fun h => by
  obtain ⟨x, hx, e⟩ := List.any_eq_true.1 h
  simp only [decide_eq_true_eq] at e
  exact e ▸ hx, hasK_true⟩

/-- 'New()'. -/
theorem ordNew_calls {w0 w : World} {R : HP} (S : Sat w0 w R) :
    Calls Try.prog 64 #[] w fun en w' => ∃ o, en = .returned (pt o) ∧ ∃ e m, Sat w0 w' (pts o (.cells #[pt e, .map (some m)] 105 (0, 0)) * (ring 121 e [] * (gmap Value.string m (kns []) * R))) := by
  go_enter Try.func64, Try.ntmps64
  have hmm := @run_makeMap Try.prog
  go_wp2
  go_ret
  refine ⟨_, rfl, w.heap.size, w.heap.size + 1, ?_⟩
  have S1 := ((S.alloc (.cells #[.string ⟨#[]⟩, pt w.heap.size, pt w.heap.size] 121)).gmap_made (kv := Value.string)).alloc (.cells #[pt w.heap.size, .map (some (w.heap.size + 1))] 105)
  simp only [World.size_alloc] at S1
  exact S1.cong (by simp only [ring_eq, nd, chain, mul_emp, lsb_nil, hdb_nil, kns, List.map_nil]; ac_rfl)

/-- 'Touch', of a key that is there. -/
theorem ordTouch_old {w0 w : World} {o e m x : Nat} {key : ByteArray} {pre post : List KN} {R : HP} (S : Sat w0 w (pts o (.cells #[pt e, .map (some m)] 105 (0, 0)) * (ring 121 e (pre ++ (x, key) :: post) * (gmap Value.string m (kns (pre ++ (x, key) :: post)) * R)))) :
    Calls Try.prog 65 #[pt o, .string key] w fun en w' => en = .returned (.bool false) ∧ Sat w0 w' (pts o (.cells #[pt e, .map (some m)] 105 (0, 0)) * (ring 121 e (pre ++ post ++ [(x, key)]) * (gmap Value.string m (kns (pre ++ (x, key) :: post)) * R))) := by
  obtain ⟨c0, c1, -⟩ := blk2 S.blk
  have hn := S.p3.kns_nodup
  have hl := S.p3.run_lookup keys_string kmap kkey kzero false key
  rw [kns_has hn] at hl
  have hq := keql (some m)
  clear hn
  have HS := Lib.hid S
  clear S
  go_enter Try.func65, Try.ntmps65
  go_wp2_with fail
  refine (cut_calls HS.out.p2).mono ?_
  rintro en w1 ⟨rfl, S1⟩
  clear c0 c1 hl
  obtain ⟨c0, -, f0⟩ := blk2 S1.p3.blk
  obtain ⟨x0, x1, x2, fx⟩ := blk3 S1.blk
  have e1 := (S1.p2.ring_end).1
  have fe := (S1.p2.ring_end).2.2
  have hS1 := Lib.hid S1
  clear HS S1
  go_wp2_with fail
  go_region
  clear c0 f0 x0 x1 x2 fx e1 fe
  refine gen_w (w0 := w0) (A := nd 121 x key (lsb (pre ++ post) e) e * (ring 121 e (pre ++ post) * (pts o (.cells #[pt e, .map (some m)] 105 (0, 0)) * (gmap Value.string m (kns (pre ++ (x, key) :: post)) * R)))) ?_ ?_
  · have S1 := hS1.out
    exact ((S1.setCell (i := 1) (pt (lsb (pre ++ post) e))).setCell (i := 2) (pt e)).drew
  · intro w2 S2
    clear hS1
    obtain ⟨c0, -, f0⟩ := blk2 S2.p3.blk
    obtain ⟨x0, x1, x2, fx⟩ := blk3 S2.blk
    obtain ⟨r1, r2, r3, r4, r5⟩ := S2.ring_put
    have hS5 := Lib.hid r5.drew
    clear r5 S2
    go_wp2_with fail
    go_region
    go_wp2_with fail
    go_ret
    exact ⟨rfl, hS5.out.cong (by ac_rfl)⟩

theorem ins_new {ys : List KN} {x : Nat} {key : ByteArray} (h : key ∉ ys.map (·.2)) : (ins (kns ys) key (pt x)).Perm (kns (ys ++ [(x, key)])) := by
  unfold ins era
  rw [List.filter_eq_self.2 (fun p hp => by
    obtain ⟨y, hy, rfl⟩ := List.mem_map.1 hp
    simp only [Bool.not_eq_true', decide_eq_false_iff_not]
    exact fun e => h (List.mem_map.2 ⟨y, hy, e⟩))]
  unfold kns
  rw [List.map_append]
  exact (List.perm_append_singleton _ _).symm

/-- 'Touch', of a key that is new. -/
theorem ordTouch_new {w0 w : World} {o e m : Nat} {key : ByteArray} {ys : List KN} {R : HP} (hkey : key ∉ ys.map (·.2)) (S : Sat w0 w (pts o (.cells #[pt e, .map (some m)] 105 (0, 0)) * (ring 121 e ys * (gmap Value.string m (kns ys) * R)))) :
    Calls Try.prog 65 #[pt o, .string key] w fun en w' => en = .returned (.bool true) ∧ ∃ x, Sat w0 w' (pts o (.cells #[pt e, .map (some m)] 105 (0, 0)) * (ring 121 e (ys ++ [(x, key)]) * (gmap Value.string m (kns (ys ++ [(x, key)])) * R))) := by
  obtain ⟨c0, c1, f0⟩ := blk2 S.blk
  have hl := S.p3.run_lookup keys_string kmap kkey kzero false key
  rw [kns_lk hkey] at hl
  have hq := keql (some m)
  have hlt := S.lt
  obtain ⟨x, hx⟩ : ∃ x, x = w.heap.size := ⟨_, rfl⟩
  obtain ⟨w1, hu, S1⟩ := Sat.run_mapUpdate ((S.alloc (.cells #[.string key, .pointer none, .pointer none] 121)).p4) keys_string kmap kkey key (pt x)
  rw [gmap_perm (ins_new hkey), ← hx] at S1
  rw [hx] at hu
  have HS1 := Lib.hid S1
  have HX := Lib.hid hx
  clear S S1 hx hkey
  go_enter Try.func65, Try.ntmps65
  go_wp2_with fail
  rw [← HX.out]
  clear c0 c1 f0 hl hu hlt
  have S1 := HS1.out
  obtain ⟨c0, -, f0⟩ := blk2 S1.p3.blk
  obtain ⟨x0, x1, x2, fx⟩ := blk3 S1.p2.blk
  have e1 := (S1.p4.ring_end).1
  have fe := (S1.p4.ring_end).2.2
  have hS1 : Hid (Sat w0 w1 (pts x (.cells #[.string key, .pointer none, .pointer none] 121 (0, 0)) * (ring 121 e ys * (pts o (.cells #[pt e, .map (some m)] 105 (0, 0)) * (gmap Value.string m (kns (ys ++ [(x, key)])) * R))))) := Lib.hid (S1.cong (by ac_rfl))
  clear HS1 HX S1
  go_region
  clear c0 f0 x0 x1 x2 fx e1 fe
  refine gen_w (w0 := w0) (A := nd 121 x key (lsb ys e) e * (ring 121 e ys * (pts o (.cells #[pt e, .map (some m)] 105 (0, 0)) * (gmap Value.string m (kns (ys ++ [(x, key)])) * R)))) ?_ ?_
  · have S1 := hS1.out
    exact ((S1.setCell (i := 1) (pt (lsb ys e))).setCell (i := 2) (pt e)).drew
  · intro w2 S2
    clear hS1
    obtain ⟨c0, -, f0⟩ := blk2 S2.p3.blk
    obtain ⟨x0, x1, x2, fx⟩ := blk3 S2.blk
    obtain ⟨r1, r2, r3, r4, r5⟩ := S2.ring_put
    have hS5 := Lib.hid r5.drew
    clear r5 S2
    go_wp2_with fail
    go_region
    go_wp2_with fail
    go_ret
    exact ⟨rfl, x, hS5.out.cong (by ac_rfl)⟩

/-- 'Has'. -/
theorem ordHas_nil (key : ByteArray) (w : World) : Calls Try.prog 62 #[.pointer none, .string key] w fun en w' => en = .returned (.bool false) ∧ w' = w := by
  go_enter Try.func62, Try.ntmps62
  go_wp2_with fail
  go_ret
  exact ⟨rfl, rfl⟩
theorem ordHas {w0 w : World} {o : Nat} {key : ByteArray} {l : List ByteArray} {R : HP} (S : Sat w0 w (ord o l * R)) :
    Calls Try.prog 62 #[pt o, .string key] w fun en w' => en = .returned (.bool (hasK l key)) ∧ w' = w := by
  rcases S.ord_open with ⟨rfl, S1⟩ | ⟨e, m, ys, rfl, S1⟩
  · obtain ⟨c0, c1, -⟩ := blk2 S1.blk
    have hl := run_lookup_nil keys_string kmap kkey kzero w false key
    clear S S1
    go_enter Try.func62, Try.ntmps62
    go_wp2_with fail
    go_ret
    exact ⟨by simp [hasK], rfl⟩
  · obtain ⟨c0, c1, -⟩ := blk2 S1.blk
    have hl := S1.p3.run_lookup keys_string kmap kkey kzero false key
    have hn := S1.p3.kns_nodup
    clear S S1
    by_cases hk : key ∈ ys.map (·.2)
    · rw [hasK_true hk]
      obtain ⟨pre, x, post, rfl⟩ := split_at hk
      rw [kns_has hn] at hl
      clear hk hn
      go_enter Try.func62, Try.ntmps62
      go_wp2_with fail
      go_ret
      exact ⟨by simp, rfl⟩
    · rw [hasK_false hk]
      rw [kns_lk hk] at hl
      clear hk hn
      go_enter Try.func62, Try.ntmps62
      go_wp2_with fail
      go_ret
      exact ⟨by simp, rfl⟩
/-- 'Len'. -/
theorem ordLen_nil (w : World) : Calls Try.prog 88 #[.pointer none] w fun en w' => en = .returned (.int .i64 0) ∧ w' = w := by
  go_enter Try.func88, Try.ntmps88
  go_wp2_with fail
  go_ret
  exact ⟨rfl, rfl⟩
theorem ordLen {w0 w : World} {o : Nat} {l : List ByteArray} {R : HP} (S : Sat w0 w (ord o l * R)) :
    Calls Try.prog 88 #[pt o] w fun en w' => en = .returned (.int .i64 l.length) ∧ w' = w := by
  rcases S.ord_open with ⟨rfl, S1⟩ | ⟨e, m, ys, rfl, S1⟩
  · obtain ⟨c0, c1, -⟩ := blk2 S1.blk
    clear S S1
    go_enter Try.func88, Try.ntmps88
    go_wp2_with fail
    go_ret
    exact ⟨by simp, rfl⟩
  · obtain ⟨c0, c1, -⟩ := blk2 S1.blk
    have hl := S1.p3.run_len kmap 3
    have e1 : (kns ys).length = (ys.map (·.2)).length := by simp [kns]
    rw [e1] at hl
    generalize (ys.map (·.2)).length = n at *
    clear S S1 e1
    go_enter Try.func88, Try.ntmps88
    go_wp2_with fail
    go_ret
    exact ⟨rfl, rfl⟩
/-- 'Drop'. -/
theorem ordDrop_nil (key : ByteArray) (w : World) : Calls Try.prog 50 #[.pointer none, .string key] w fun en w' => en = .returned (.bool false) ∧ w' = w := by
  go_enter Try.func50, Try.ntmps50
  go_wp2_with (go_at_call 62; refine (ordHas_nil _ _).mono ?_; rintro en w' ⟨rfl, rfl⟩)
  go_ret
  exact ⟨rfl, rfl⟩
theorem era_kns {pre post : List KN} {x : Nat} {key : ByteArray} (hn : ((pre ++ (x, key) :: post).map (·.2)).Nodup) : era (kns (pre ++ (x, key) :: post)) key = kns (pre ++ post) := by
  rw [List.map_append, List.map_cons, List.nodup_append] at hn
  obtain ⟨h1, h2, h3⟩ := hn
  rw [List.nodup_cons] at h2
  have f : ∀ q : List KN, key ∉ q.map (·.2) → era (kns q) key = kns q := fun q hq => List.filter_eq_self.2 fun p hp => by
    obtain ⟨y, hy, rfl⟩ := List.mem_map.1 hp
    simp only [Bool.not_eq_true', decide_eq_false_iff_not]
    exact fun e => hq (List.mem_map.2 ⟨y, hy, e⟩)
  have a := f pre (fun h => h3 _ h _ (List.mem_cons_self) rfl)
  have b := f post h2.1
  unfold era kns at *
  rw [List.map_append, List.map_cons, List.filter_append, List.filter_cons_of_neg (by simp), a, b, List.map_append]
theorem ordDrop_out {w0 w : World} {o : Nat} {key : ByteArray} {l : List ByteArray} {R : HP} (hk : key ∉ l) (S : Sat w0 w (ord o l * R)) :
    Calls Try.prog 50 #[pt o, .string key] w fun en w' => en = .returned (.bool false) ∧ w' = w := by
  have HS := Lib.hid S
  have HK : Hid (hasK l key = false) := Lib.hid (hasK_false hk)
  clear S hk
  go_enter Try.func50, Try.ntmps50
  go_wp2_with (go_at_call 62; refine (ordHas HS.out).mono ?_; rintro en w' ⟨rfl, rfl⟩; rw [HK.out])
  go_ret
  exact ⟨rfl, rfl⟩
theorem ordDrop_in {w0 w : World} {o e m x : Nat} {key : ByteArray} {pre post : List KN} {R : HP} (S : Sat w0 w (pts o (.cells #[pt e, .map (some m)] 105 (0, 0)) * (ring 121 e (pre ++ (x, key) :: post) * (gmap Value.string m (kns (pre ++ (x, key) :: post)) * R)))) :
    Calls Try.prog 50 #[pt o, .string key] w fun en w' => en = .returned (.bool true) ∧ Sat w0 w' (pts o (.cells #[pt e, .map (some m)] 105 (0, 0)) * (ring 121 e (pre ++ post) * (gmap Value.string m (kns (pre ++ post)) * R))) := by
  obtain ⟨c0, c1, -⟩ := blk2 S.blk
  have hn := S.p3.kns_nodup
  have hl := S.p3.run_lookup keys_string kmap kkey kzero false key
  rw [kns_has hn] at hl
  have HN := Lib.hid hn
  have HS := Lib.hid S
  have HK : Hid (hasK ((pre ++ (x, key) :: post).map (·.2)) key = true) := Lib.hid (hasK_true (by simp))
  have HS0 := Lib.hid S.ord_shut
  clear S hn
  go_enter Try.func50, Try.ntmps50
  go_wp2_with (go_at_call 62; refine (ordHas HS0.out).mono ?_; rintro en w' ⟨rfl, rfl⟩; rw [HK.out])
  refine (cut_calls HS.out.p2).mono ?_
  rintro en w1 ⟨rfl, S1⟩
  clear c0 c1 hl HS HK HS0
  obtain ⟨c0, c1, -⟩ := blk2 S1.p3.blk
  obtain ⟨w2, hd, S2⟩ := (S1.p4).run_delete keys_string kmap kkey key 0 9
  rw [era_kns HN.out] at S2
  have HS2 := Lib.hid S2
  clear S1 S2
  go_wp2_with fail
  go_ret
  exact ⟨rfl, HS2.out.p2.drop1.cong (by ac_rfl)⟩

theorem ordTouch_nil (key : ByteArray) (w : World) : Calls Try.prog 65 #[.pointer none, .string key] w fun en w' => en = .returned (.bool false) ∧ w' = w := by
  go_enter Try.func65, Try.ntmps65
  go_wp2_with fail
  go_ret
  exact ⟨rfl, rfl⟩
/-- 'Touch', of the zero order. -/
theorem ordTouch_zero {w0 w : World} {o : Nat} {key : ByteArray} {R : HP} (S : Sat w0 w (pts o (.cells #[.pointer none, .map none] 105 (0, 0)) * R)) :
    Calls Try.prog 65 #[pt o, .string key] w fun en w' => en = .returned (.bool true) ∧ ∃ e m x, Sat w0 w' (pts o (.cells #[pt e, .map (some m)] 105 (0, 0)) * (ring 121 e ([] ++ [(x, key)]) * (gmap Value.string m (kns ([] ++ [(x, key)])) * R))) := by
  obtain ⟨c0, c1, f0⟩ := blk2 S.blk
  have hq := keql
  have HS := Lib.hid S
  clear S
  go_enter Try.func65, Try.ntmps65
  go_wp2_with fail
  refine (ordNew_calls HS.out).mono ?_
  rintro en w1 ⟨o', rfl, e, m, S1⟩
  clear c0 c1 f0 HS
  obtain ⟨a0, a1, -⟩ := blk2 S1.blk
  obtain ⟨c0, c1, f0⟩ := blk2 S1.p4.blk
  have HS1 := Lib.hid S1
  clear S1
  dsimp only
  go_upto_region 5 with (fail)
  clear a0 a1 c0 c1 f0 hq
  refine gen_w (w0 := w0) (A := pts o (.cells #[pt e, .map (some m)] 105 (0, 0)) * (ring 121 e [] * (gmap Value.string m (kns []) * R))) ?_ ?_
  · have S1 := HS1.out.drop1.p3
    exact ((S1.setCell (i := 0) (pt e)).setCell (i := 1) (.map (some m)))
  · clear HS1 w1
    intro w S
    obtain ⟨c0, c1, f0⟩ := blk2 S.blk
    have hl := S.p3.run_lookup keys_string kmap kkey kzero false key
    rw [kns_lk (by simp)] at hl
    have hlt := S.lt
    obtain ⟨x, hx⟩ : ∃ x, x = w.heap.size := ⟨_, rfl⟩
    obtain ⟨w1, hu, S1⟩ := Sat.run_mapUpdate ((S.alloc (.cells #[.string key, .pointer none, .pointer none] 121)).p4) keys_string kmap kkey key (pt x)
    rw [gmap_perm (ins_new (by simp)), ← hx] at S1
    rw [hx] at hu
    have HS1 := Lib.hid S1
    have HX := Lib.hid hx
    clear S S1 hx
    go_wp2_with fail
    rw [← HX.out]
    clear c0 c1 f0 hl hu hlt
    have S1 := HS1.out
    obtain ⟨c0, -, f0⟩ := blk2 S1.p3.blk
    obtain ⟨x0, x1, x2, fx⟩ := blk3 S1.p2.blk
    have e1 := (S1.p4.ring_end).1
    have fe := (S1.p4.ring_end).2.2
    have hS1 : Hid (Sat w0 w1 (pts x (.cells #[.string key, .pointer none, .pointer none] 121 (0, 0)) * (ring 121 e [] * (pts o (.cells #[pt e, .map (some m)] 105 (0, 0)) * (gmap Value.string m (kns ([] ++ [(x, key)])) * R))))) := Lib.hid (S1.cong (by ac_rfl))
    clear HS1 HX S1
    go_region
    clear c0 f0 x0 x1 x2 fx e1 fe
    refine gen_w (w0 := w0) (A := nd 121 x key (lsb [] e) e * (ring 121 e [] * (pts o (.cells #[pt e, .map (some m)] 105 (0, 0)) * (gmap Value.string m (kns ([] ++ [(x, key)])) * R)))) ?_ ?_
    · have S1 := hS1.out
      exact ((S1.setCell (i := 1) (pt (lsb [] e))).setCell (i := 2) (pt e)).drew
    · intro w2 S2
      clear hS1
      obtain ⟨c0, -, f0⟩ := blk2 S2.p3.blk
      obtain ⟨x0, x1, x2, fx⟩ := blk3 S2.blk
      obtain ⟨r1, r2, r3, r4, r5⟩ := S2.ring_put
      rw [lsb_nil] at r1 r3 r4 x1
      have hS5 := Lib.hid r5.drew
      clear r5 S2
      go_wp2_with fail
      go_region
      go_wp2_with fail
      go_ret
      exact ⟨rfl, e, m, x, hS5.out.cong (by ac_rfl)⟩

theorem filter_out {pre post : List KN} {x : Nat} {key : ByteArray} (hn : ((pre ++ (x, key) :: post).map (·.2)).Nodup) : ((pre ++ (x, key) :: post).map (·.2)).filter (fun k => !decide (k = key)) = (pre ++ post).map (·.2) := by
  rw [List.map_append, List.map_cons, List.nodup_append] at hn
  obtain ⟨h1, h2, h3⟩ := hn
  rw [List.nodup_cons] at h2
  have f : ∀ q : List ByteArray, key ∉ q → q.filter (fun k => !decide (k = key)) = q := fun q hq => List.filter_eq_self.2 fun p hp => by
    simp only [Bool.not_eq_true', decide_eq_false_iff_not]
    exact fun e => hq (e ▸ hp)
  rw [List.map_append, List.map_cons, List.filter_append, List.filter_cons_of_neg (by simp), f _ (fun h => h3 _ h _ (List.mem_cons_self) rfl), f _ h2.1, List.map_append]
theorem filter_all {l : List ByteArray} {key : ByteArray} (h : key ∉ l) : l.filter (fun k => !decide (k = key)) = l := List.filter_eq_self.2 fun p hp => by
  simp only [Bool.not_eq_true', decide_eq_false_iff_not]
  exact fun e => h (e ▸ hp)
/-- What Drop and Touch leave, in plain words. -/
def dropK (l : List ByteArray) (key : ByteArray) : List ByteArray := l.filter fun k => !decide (k = key)
theorem ordTouch {w0 w : World} {o : Nat} {key : ByteArray} {l : List ByteArray} {R : HP} (S : Sat w0 w (ord o l * R)) :
    Calls Try.prog 65 #[pt o, .string key] w fun en w' => en = .returned (.bool (!hasK l key)) ∧ Sat w0 w' (ord o (dropK l key ++ [key]) * R) := by
  rcases S.ord_open with ⟨rfl, S1⟩ | ⟨e, m, ys, rfl, S1⟩
  · refine (ordTouch_zero S1).mono ?_
    rintro en w' ⟨rfl, e, m, x, S2⟩
    exact ⟨by simp [hasK], S2.ord_shut⟩
  · by_cases hk : key ∈ ys.map (·.2)
    · have hn := S1.p3.kns_nodup
      obtain ⟨pre, x, post, rfl⟩ := split_at hk
      refine (ordTouch_old S1).mono ?_
      rintro en w' ⟨rfl, S2⟩
      refine ⟨by rw [hasK_true hk]; rfl, ?_⟩
      unfold dropK
      rw [filter_out hn]
      have hp : (kns (pre ++ (x, key) :: post)).Perm (kns (pre ++ post ++ [(x, key)])) := by
        unfold kns
        refine List.Perm.map _ ?_
        rw [List.append_assoc]
        exact List.Perm.append_left _ (List.perm_append_singleton _ _).symm
      rw [gmap_perm hp] at S2
      have := S2.ord_shut
      simpa only [List.map_append, List.map_cons, List.map_nil] using this
    · refine (ordTouch_new hk S1).mono ?_
      rintro en w' ⟨rfl, x, S2⟩
      refine ⟨by rw [hasK_false hk]; rfl, ?_⟩
      unfold dropK
      rw [filter_all hk]
      have := S2.ord_shut
      simpa only [List.map_append, List.map_cons, List.map_nil] using this
theorem ordDrop {w0 w : World} {o : Nat} {key : ByteArray} {l : List ByteArray} {R : HP} (S : Sat w0 w (ord o l * R)) :
    Calls Try.prog 50 #[pt o, .string key] w fun en w' => en = .returned (.bool (hasK l key)) ∧ Sat w0 w' (ord o (dropK l key) * R) := by
  by_cases hk : key ∈ l
  · rcases S.ord_open with ⟨rfl, S1⟩ | ⟨e, m, ys, rfl, S1⟩
    · cases hk
    · have hn := S1.p3.kns_nodup
      obtain ⟨pre, x, post, rfl⟩ := split_at hk
      refine (ordDrop_in S1).mono ?_
      rintro en w' ⟨rfl, S2⟩
      refine ⟨by rw [hasK_true hk], ?_⟩
      unfold dropK
      rw [filter_out hn]
      exact S2.ord_shut
  · refine (ordDrop_out hk S).mono ?_
    rintro en w' ⟨rfl, rfl⟩
    refine ⟨by rw [hasK_false hk], ?_⟩
    unfold dropK
    rw [filter_all hk]
    exact S
end Go.Sl
