/-
  The contracts of package wait's functions: New, Has, Len, own.
-/
import Derived.Test.YthhapcgodofpkaaProg
import Derived.Test.YthhapcgodofpkaaKm
import Derived.Test.YthhapcgodofpkaaRing
import Derived.Test.YthhapcgodofpkaaMpi
import Derived.Test.YthhapcgodofpkaaKd
import Derived.BigRegion
import Derived.KernelRfl
import Derived.Lib.Hide
import Derived.WalkSpells
import Derived.Deep.Cut
import Derived.Deep.RegionHeld3
import Derived.Deep.DrawnRows
namespace Go.Sl
open Go.RowKit Go.Proofs Go.Proofs.YthhapcgodofpkaaW.PrintWords
set_option linter.unusedVariables false
set_option linter.unusedSimpArgs false
set_option maxRecDepth 100000

/-- One that waits: when it came, its handle, its keys and the slice they lie in, and the rest. -/
structure Pl where
  c : Int
  h : Int
  ks : List ByteArray
  g : Nat
  cap : Nat
  f2 : Bool
  f3 : Bool
  f4 : ByteArray
  f5 : Bool
  f6 : Int
/-- The slice of its keys. -/
abbrev Pl.e (p : Pl) : Value := .slice (some ⟨p.g, 0, none⟩) p.ks.length p.cap
def Pl.wv (p : Pl) : Value := .agg #[.int .i64 p.h, p.e, .bool p.f2, .bool p.f3, .string p.f4, .bool p.f5, .int .i64 p.f6]
def Pl.v (p : Pl) : Value := .agg #[.int .i64 p.h, p.e, .bool p.f2, .bool p.f3, .string p.f4, .bool p.f5, .int .i64 p.f6, .int .i64 p.c]
def Pl.row (p : Pl) : HP := Sl.row 9 1 p.e p.ks.length (p.ks.map Value.string)
def byOf (ps : List Pl) : List (Int × Value) := ps.map fun p => (p.h, p.v)
/-- Is it among these keys? -/
def hasS (ks : List ByteArray) (k : ByteArray) : Bool := ks.any fun x => decide (x = k)
def keyOf (ps : List Pl) : KF := fun k => (ps.filter fun p => hasS p.ks k).map fun p => (p.c, .int .i64 p.h)
structure WOk (ps : List Pl) (n : Int) : Prop where
  hs : (ps.map (·.h)).Nodup
  cs : ps.Pairwise fun p q => p.c < q.c
  pos : ∀ p ∈ ps, 0 < p.c ∧ p.c ≤ n ∧ p.ks ≠ [] ∧ p.ks.length ≤ 3000
  n0 : 0 ≤ n
  n1 : n ≤ 1000000
/-- The row at r has the places ps; so many came. -/
def wtb (r b kb : Nat) (ps : List Pl) (n : Int) : HP :=
  pts r (.cells #[.map (some b), .map (some kb), .int .i64 n] 54 (0, 0)) * (gmap (Value.int .i64) b (byOf ps) * (mmap kb (keyOf ps) * star (ps.map Pl.row)))
def wt (r : Nat) (ps : List Pl) (n : Int) : HP := ex fun q : Nat × Nat => wh (WOk ps n) (wtb r q.1 q.2 ps n)

section
variable {w0 w : World} {r : Nat} {ps : List Pl} {n : Int} {R : HP}
theorem Sat.wt_open (S : Sat w0 w (wt r ps n * R)) : ∃ b kb, WOk ps n ∧ Sat w0 w (pts r (.cells #[.map (some b), .map (some kb), .int .i64 n] 54 (0, 0)) * (gmap (Value.int .i64) b (byOf ps) * (mmap kb (keyOf ps) * (star (ps.map Pl.row) * R)))) := by
  obtain ⟨q, S⟩ := S.ex1
  obtain ⟨h, S⟩ := S.wh1
  exact ⟨q.1, q.2, h, S.cong (by unfold wtb; ac_rfl)⟩
theorem Sat.wt_shut {b kb : Nat} (h : WOk ps n) (S : Sat w0 w (pts r (.cells #[.map (some b), .map (some kb), .int .i64 n] 54 (0, 0)) * (gmap (Value.int .i64) b (byOf ps) * (mmap kb (keyOf ps) * (star (ps.map Pl.row) * R))))) : Sat w0 w (wt r ps n * R) := by
  unfold wt
  exact Sat.mk_ex1 (b, kb) (Sat.mk_wh1 h (S.cong (by unfold wtb; ac_rfl)))
end

theorem bmap : Try.prog.underlying 51 = some (.map 3 57) := Try.underlying51
theorem kkm : Try.prog.underlying 52 = some (.map 9 58) := Try.underlying52
theorem imap : Try.prog.underlying 58 = some (.map 3 3) := Try.underlying58
theorem ikey : Try.prog.underlying 3 = some (.int .i64) := Try.underlying3
theorem skey : Try.prog.underlying 9 = some .string := Try.underlying9
theorem bzero (w : World) : (zeroValue 57).run Try.prog w = .ok (.agg #[.int .i64 0, .slice none 0 0, .bool false, .bool false, .string ⟨#[]⟩, .bool false, .int .i64 0, .int .i64 0]) w := by kernel_rfl
theorem kkzero (w : World) : (zeroValue 58).run Try.prog w = .ok (.map none) w := by kernel_rfl
theorem izero (w : World) : (zeroValue 3).run Try.prog w = .ok (.int .i64 0) w := by kernel_rfl
theorem beql (r : Option Nat) (w : World) : (binOp .eql 51 (.map r) (.map none)).run Try.prog w = .ok (.bool r.isNone) w := run_eql_map_nil w _ _ _ r bmap
theorem ieql (r : Option Nat) (w : World) : (binOp .eql 58 (.map r) (.map none)).run Try.prog w = .ok (.bool r.isNone) w := run_eql_map_nil w _ _ _ r imap

/-- Does it wait? -/
def hasH (ps : List Pl) (h : Int) : Bool := ps.any fun p => decide (p.h = h)
theorem hasH_true {ps : List Pl} {p : Pl} (hp : p ∈ ps) : hasH ps p.h = true := List.any_eq_true.2 ⟨p, hp, by simp⟩
theorem hasH_some {ps : List Pl} {h : Int} (hh : hasH ps h = true) : ∃ p ∈ ps, p.h = h := by
  obtain ⟨p, hp, e⟩ := List.any_eq_true.1 hh
  exact ⟨p, hp, by simpa using e⟩
theorem byOf_fst (ps : List Pl) : (byOf ps).map (·.1) = ps.map (·.h) := by simp [byOf, List.map_map, Function.comp_def]
theorem byOf_has {ps : List Pl} {p : Pl} (hn : (ps.map (·.h)).Nodup) (hp : p ∈ ps) : lk (byOf ps) p.h = some p.v := lk_some (by rw [byOf_fst]; exact hn) (List.mem_map.2 ⟨p, hp, rfl⟩)
theorem byOf_none {ps : List Pl} {h : Int} (hh : hasH ps h = false) : lk (byOf ps) h = none := lk_none fun x hx e => by
  obtain ⟨p, hp, rfl⟩ := List.mem_map.1 hx
  have e' : p.h = h := e
  rw [← e', hasH_true hp] at hh
  cases hh

/-- 'New()'. -/
theorem wtNew {w0 w : World} {R : HP} (S : Sat w0 w R) :
    Calls Try.prog 6 #[] w fun en w' => ∃ r, en = .returned (pt r) ∧ Sat w0 w' (wt r [] 0 * R) := by
  go_enter Try.func6, Try.ntmps6
  have hmm := @run_makeMap Try.prog
  go_wp2
  go_ret
  refine ⟨_, rfl, ?_⟩
  have S1 := ((S.gmap_made (kv := Value.int .i64)).mmap_made).alloc (.cells #[.map (some w.heap.size), .map (some (w.heap.size + 1)), .int .i64 0] 54)
  simp only [World.size_alloc] at S1
  refine Sat.wt_shut (b := w.heap.size) (kb := w.heap.size + 1) ⟨by simp, by simp, by simp, by omega, by omega⟩ (S1.cong ?_)
  simp only [List.map_nil, star_nil, byOf, emp_mul]
  rw [mmap_cong (f := keyOf []) (g := fun _ => []) (fun k => by simp [keyOf])]
  ac_rfl

/-- 'Len'. -/
theorem wtLen {w0 w : World} {r : Nat} {ps : List Pl} {n : Int} {R : HP} (S : Sat w0 w (wt r ps n * R)) :
    Calls Try.prog 17 #[pt r] w fun en w' => en = .returned (.int .i64 ps.length) ∧ w' = w := by
  obtain ⟨b, kb, hok, S1⟩ := S.wt_open
  obtain ⟨c0, c1, c2, -⟩ := blk3 S1.blk
  have hl := S1.p2.run_len bmap 3
  rw [show (byOf ps).length = ps.length by simp [byOf]] at hl
  generalize ps.length = m at *
  clear S S1 hok
  go_enter Try.func17, Try.ntmps17
  go_wp2_with fail
  go_ret
  exact ⟨rfl, rfl⟩

/-- 'Has'. -/
theorem wtHas {w0 w : World} {r : Nat} {ps : List Pl} {n : Int} {R : HP} (h : Int) (S : Sat w0 w (wt r ps n * R)) :
    Calls Try.prog 18 #[pt r, .int .i64 h] w fun en w' => en = .returned (.bool (hasH ps h)) ∧ Sat w0 w' (wt r ps n * R) := by
  obtain ⟨b, kb, hok, S1⟩ := S.wt_open
  obtain ⟨c0, c1, c2, -⟩ := blk3 S1.blk
  have hl := S1.p2.run_lookup (keys_int .i64) bmap ikey bzero true h
  have HS := Lib.hid S
  clear S S1
  cases hh : hasH ps h with
  | false =>
    rw [byOf_none hh] at hl
    have HA := Lib.hid (HS.out.alloc (.cells #[.int .i64 0, .slice none 0 0, .bool false, .bool false, .string ⟨#[]⟩, .bool false, .int .i64 0, .int .i64 0] 57)).drop1
    clear hh hok HS
    go_enter Try.func18, Try.ntmps18
    go_wp2_with fail
    go_ret
    exact ⟨rfl, HA.out⟩
  | true =>
    obtain ⟨p, hp, rfl⟩ := hasH_some hh
    rw [byOf_has hok.hs hp] at hl
    have HA := Lib.hid (HS.out.alloc (.cells #[.int .i64 p.h, p.e, .bool p.f2, .bool p.f3, .string p.f4, .bool p.f5, .int .i64 p.f6, .int .i64 p.c] 57)).drop1
    unfold Pl.v at hl
    clear hh hok hp HS
    go_enter Try.func18, Try.ntmps18
    go_wp2_with fail
    go_ret
    exact ⟨rfl, HA.out⟩
theorem wstrInfo : (Try.prog.info? 9).map (fun i => (i.zero, i.size, i.bytes)) = some (some (.string ⟨#[]⟩), 1, 16) := by kernel_rfl

/-- The texts of a slice, one by one. -/
theorem strs_cells {w : World} {ad : Addr} {xs : List ByteArray} (h : Kd.C Kd.string w (some ad) xs.length xs) : ∀ j u, (xs.map Value.string)[j]? = some u → w.cell? (ad.add j) = some u := by
  intro j u hj
  rw [List.getElem?_map] at hj
  obtain ⟨x, hx, rfl⟩ := Option.map_eq_some_iff.1 hj
  have hjl : j < xs.length := (List.getElem?_eq_some_iff.1 hx).1
  obtain ⟨ad', e, hc⟩ := Kd.at_string h j (by omega) (by omega)
  injection e with e
  subst e
  have : rdOf ByteArray.empty xs (j : Int) = x := by unfold rdOf; simp [List.getD_eq_getElem?_getD, hx]
  rw [this] at hc
  simpa using hc

/-- slices.Clone, of texts that there are. -/
theorem clone_calls {w0 w : World} {ad : Addr} {c : Nat} {xs : List ByteArray} {R : HP} (hn : xs.length ≤ 3000) (hC : Kd.C Kd.string w (some ad) xs.length xs) (S : Sat w0 w R) :
    Calls Try.prog 23 #[.slice (some ad) xs.length c] w fun en w' => ∃ v, en = .returned v ∧ Sat w0 w' (row 9 1 v xs.length (xs.map Value.string) * R) := by
  have q24 : ∀ (w : World) (a : Option Addr) (n c n' c' : Nat), (binOp .eql 28 (.slice a n c) (.slice none n' c')).run Try.prog w = .ok (.bool a.isNone) w := fun w a n c n' c' => Lib.run_eql_slice_nil w _ _ a n c n' c' Try.underlying28
  have S1 := S.row_new (e := 9) (sz := 1) (n := 0) (cur := #[]) (by simp) (by unfold maxLen; omega)
  have hc := strs_cells hC
  obtain ⟨v, w', hr, S2⟩ := S1.run_append 28 28 Try.underlying28 wstrInfo rfl (by decide) ad xs.length c (xs.map Value.string) (by simp) (fun j u hj => Lib.cell?_alloc_some _ (hc j u hj)) (by simp [Value.oneCell']) (by unfold maxLen; omega) (by omega)
  have HS := Lib.hid S2
  clear S S1 S2 hc hC hn
  go_enter Try.func23, Try.ntmps23
  go_wp2_with (at_builtin; refine wpList_append_eq rfl _ _ _ _ rfl rfl rfl hr ?_)
  go_ret
  exact ⟨_, rfl, by simpa using HS.out⟩
section
variable {w : World} {b : Nat} {x0 x1 x2 x3 x4 x5 x6 x7 : Value} {t : TypeId}
theorem blk7 (h : w.heap[b]? = some (.cells #[x0, x1, x2, x3, x4, x5, x6] t (0, 0))) : w.cell? ⟨b, 0, none⟩ = some x0 ∧ w.cell? ⟨b, 1, none⟩ = some x1 ∧ w.cell? ⟨b, 2, none⟩ = some x2 ∧ w.cell? ⟨b, 3, none⟩ = some x3 ∧ w.cell? ⟨b, 4, none⟩ = some x4 ∧ w.cell? ⟨b, 5, none⟩ = some x5 ∧ w.cell? ⟨b, 6, none⟩ = some x6 ∧ ∀ i, w.frozen? ⟨b, i, none⟩ = false :=
  ⟨cell_of h 0 rfl, cell_of h 1 rfl, cell_of h 2 rfl, cell_of h 3 rfl, cell_of h 4 rfl, cell_of h 5 rfl, cell_of h 6 rfl, frz_of h⟩
theorem blk8 (h : w.heap[b]? = some (.cells #[x0, x1, x2, x3, x4, x5, x6, x7] t (0, 0))) : w.cell? ⟨b, 0, none⟩ = some x0 ∧ w.cell? ⟨b, 1, none⟩ = some x1 ∧ w.cell? ⟨b, 2, none⟩ = some x2 ∧ w.cell? ⟨b, 3, none⟩ = some x3 ∧ w.cell? ⟨b, 4, none⟩ = some x4 ∧ w.cell? ⟨b, 5, none⟩ = some x5 ∧ w.cell? ⟨b, 6, none⟩ = some x6 ∧ w.cell? ⟨b, 7, none⟩ = some x7 ∧ ∀ i, w.frozen? ⟨b, i, none⟩ = false :=
  ⟨cell_of h 0 rfl, cell_of h 1 rfl, cell_of h 2 rfl, cell_of h 3 rfl, cell_of h 4 rfl, cell_of h 5 rfl, cell_of h 6 rfl, cell_of h 7 rfl, frz_of h⟩
end
/-- A slice that has something lies somewhere. -/
theorem row_some {w0 w : World} {e sz n : Nat} {v : Value} {xs : List Value} {R : HP} (hn : 0 < n) (S : Sat w0 w (row e sz v n xs * R)) : ∃ g cap, v = .slice (some ⟨g, 0, none⟩) n cap := by
  obtain ⟨m, rfl⟩ : ∃ m, n = m + 1 := ⟨n - 1, by omega⟩
  exact row_succ S

theorem wsize : (Try.prog.info? 30).map (·.size) = some 7 := by kernel_rfl
/-- 'own(w)': the keys are copied. -/
theorem own_calls {w0 w : World} {ad : Addr} {c : Nat} {xs : List ByteArray} {h f6 : Int} {f2 f3 f5 : Bool} {f4 : ByteArray} {R : HP} (h0 : 0 < xs.length) (hn : xs.length ≤ 3000) (hC : Kd.C Kd.string w (some ad) xs.length xs) (S : Sat w0 w R) :
    Calls Try.prog 20 #[.agg #[.int .i64 h, .slice (some ad) xs.length c, .bool f2, .bool f3, .string f4, .bool f5, .int .i64 f6]] w fun en w' =>
      ∃ g cap, en = .returned (.agg #[.int .i64 h, .slice (some ⟨g, 0, none⟩) xs.length cap, .bool f2, .bool f3, .string f4, .bool f5, .int .i64 f6]) ∧ Sat w0 w' (row 9 1 (.slice (some ⟨g, 0, none⟩) xs.length cap) xs.length (xs.map Value.string) * R) := by
  obtain ⟨b, hb⟩ : ∃ b, b = w.heap.size := ⟨_, rfl⟩
  have S1 := (S.alloc (.cells #[.int .i64 h, .slice (some ad) xs.length c, .bool f2, .bool f3, .string f4, .bool f5, .int .i64 f6] 30)).alloc (.cells #[.int .i64 0, .slice none 0 0, .bool false, .bool false, .string ⟨#[]⟩, .bool false, .int .i64 0] 30)
  have HC := Lib.hid (Kd.C_alloc (Kd.C_alloc hC (.cells #[.int .i64 h, .slice (some ad) xs.length c, .bool f2, .bool f3, .string f4, .bool f5, .int .i64 f6] 30)) (.cells #[.int .i64 0, .slice none 0 0, .bool false, .bool false, .string ⟨#[]⟩, .bool false, .int .i64 0] 30))
  simp only [World.size_alloc] at S1
  rw [← hb] at S1
  have HB := Lib.hid hb
  have HS := Lib.hid S1
  clear S S1 hC hb
  go_enter Try.func20, Try.ntmps20
  go_wp2_with fail
  rw [← HB.out]
  refine (clone_calls hn HC.out HS.out).mono ?_
  rintro en w1 ⟨v, rfl, S2⟩
  obtain ⟨g, cap, rfl⟩ := row_some h0 S2
  clear HB HC HS
  have S3 := (S2.p3.setCell (i := 1) (.slice (some ⟨g, 0, none⟩) xs.length cap))
  have S4 : Sat w0 (w1.setCell ⟨b, 1, none⟩ (.slice (some ⟨g, 0, none⟩) xs.length cap)) (pts b (.cells #[.int .i64 h, .slice (some ⟨g, 0, none⟩) xs.length cap, .bool f2, .bool f3, .string f4, .bool f5, .int .i64 f6] 30 (0, 0)) * (pts (b + 1) (.cells #[.int .i64 0, .slice none 0 0, .bool false, .bool false, .string ⟨#[]⟩, .bool false, .int .i64 0] 30 (0, 0)) * (row 9 1 (.slice (some ⟨g, 0, none⟩) xs.length cap) xs.length (xs.map Value.string) * R))) := S3.cong (by ac_rfl)
  have c1 := (blk7 S2.p3.blk)
  have c2 := (blk7 S2.p2.blk)
  have S5 := (((((((S4.p2.setCell (i := 0) (.int .i64 h)).setCell (i := 1) (.slice (some ⟨g, 0, none⟩) xs.length cap)).setCell (i := 2) (.bool f2)).setCell (i := 3) (.bool f3)).setCell (i := 4) (.string f4)).setCell (i := 5) (.bool f5)).setCell (i := 6) (.int .i64 f6))
  have HS5 := Lib.hid S5.drop1.drop1
  have HB5 := Lib.hid S5.blk
  clear S2 S3 S4 S5
  obtain ⟨a0, a1, a2, a3, a4, a5, a6, af⟩ := c1
  obtain ⟨d0, d1, d2, d3, d4, d5, d6, df⟩ := c2
  go_wp2_with fail
  refine bodyPost_ret (results_cell_row rfl _ _ (b + 1) 30 _ (0, 0) _ rfl HB5.out Try.underlying30 rfl wsize) rfl ?_
  exact ⟨g, cap, rfl, HS5.out⟩
end Go.Sl
