/-
  The contracts of package freq's functions: New, Len, Count, lay, Touch, Drop.
-/
import Derived.Test.YtgkjendknckibaaProg
import Derived.Test.YtgkjendknckibaaRm
import Derived.Test.YtgkjendknckibaaOrdW
import Derived.Test.YtgkjendknckibaaKd
import Derived.Deep.RegionHeld3
import Derived.Deep.RegionWith
import Derived.Deep.DrawnRows
namespace Go.Sl
open Go.RowKit Go.Proofs Go.Proofs.YtgkjendknckibaaW.PrintWords
set_option linter.unusedVariables false
set_option linter.unusedSimpArgs false
set_option maxRecDepth 100000

/-- A key, its count, and when it was touched last. -/
structure Mk where
  k : ByteArray
  c : Int
  t : Int
def Mk.v (m : Mk) : Value := .agg #[.int .i64 m.c, .int .u64 m.t]
def marksOf (es : List Mk) : List (ByteArray × Value) := es.map fun m => (m.k, m.v)
def rowOf (es : List Mk) : RF := fun n => (es.filter fun m => decide (m.c = n)).map (·.k)
def findM (es : List Mk) (key : ByteArray) : Option Mk := es.find? fun m => decide (m.k = key)
def cntOf (es : List Mk) (key : ByteArray) : Int := ((findM es key).map (·.c)).getD 0
def lessM (es : List Mk) (key : ByteArray) : List Mk := es.filter fun m => !decide (m.k = key)
structure FOk (es : List Mk) (now : Int) : Prop where
  ks : (es.map (·.k)).Nodup
  ts : es.Pairwise fun a b => a.t < b.t
  pos : ∀ m ∈ es, 1 ≤ m.c ∧ m.c ≤ 255 ∧ 0 < m.t ∧ m.t ≤ now
  n0 : 0 ≤ now
  n1 : now ≤ 1000000
  len : (es.length : Int) ≤ now
/-- The book at b. -/
def bk (b : Nat) (es : List Mk) (now : Int) : HP :=
  ex fun q : Nat × Nat => wh (FOk es now) (pts b (.cells #[.map (some q.1), .map (some q.2), .int .u64 now] 80 (0, 0)) * (gmap Value.string q.1 (marksOf es) * rmap q.2 (rowOf es)))
section
variable {w0 w : World} {b : Nat} {es : List Mk} {now : Int} {R : HP}
theorem Sat.bk_open (S : Sat w0 w (bk b es now * R)) : ∃ mb rb, FOk es now ∧ Sat w0 w (pts b (.cells #[.map (some mb), .map (some rb), .int .u64 now] 80 (0, 0)) * (gmap Value.string mb (marksOf es) * (rmap rb (rowOf es) * R))) := by
  obtain ⟨q, S⟩ := S.ex1
  obtain ⟨h, S⟩ := S.wh1
  exact ⟨q.1, q.2, h, S.cong (by ac_rfl)⟩
theorem Sat.bk_shut {mb rb : Nat} (h : FOk es now) (S : Sat w0 w (pts b (.cells #[.map (some mb), .map (some rb), .int .u64 now] 80 (0, 0)) * (gmap Value.string mb (marksOf es) * (rmap rb (rowOf es) * R)))) : Sat w0 w (bk b es now * R) := by
  unfold bk
  exact Sat.mk_ex1 (mb, rb) (Sat.mk_wh1 h (S.cong (by ac_rfl)))
end
theorem fmap : Try.prog.underlying 77 = some (.map 9 89) := Try.underlying77
theorem frm : Try.prog.underlying 78 = some (.map 3 90) := Try.underlying78
theorem fik : Try.prog.underlying 3 = some (.int .i64) := Try.underlying3
theorem fsk : Try.prog.underlying 9 = some .string := Try.underlying9
theorem fzero (w : World) : (zeroValue 89).run Try.prog w = .ok (.agg #[.int .i64 0, .int .u64 0]) w := by kernel_rfl
theorem fozero (w : World) : (zeroValue 90).run Try.prog w = .ok (.pointer none) w := by kernel_rfl
theorem feql (r : Option Nat) (w : World) : (binOp .eql 77 (.map r) (.map none)).run Try.prog w = .ok (.bool r.isNone) w := run_eql_map_nil w _ _ _ r fmap
theorem ffield (v0 v1 : Value) (w : World) : (Instr.field 89 (.agg #[v0, v1]) 0).run Try.prog w = .ok v0 w := by kernel_rfl

theorem marks_fst (es : List Mk) : (marksOf es).map (·.1) = es.map (·.k) := by simp [marksOf, List.map_map, Function.comp_def]
theorem findM_some {es : List Mk} {key : ByteArray} {m : Mk} (h : findM es key = some m) : m ∈ es ∧ m.k = key := ⟨List.mem_of_find?_eq_some h, by simpa using List.find?_some h⟩
theorem marks_none {es : List Mk} {key : ByteArray} (h : findM es key = none) : lk (marksOf es) key = none := lk_none fun x hx e => by
  obtain ⟨m, hm, rfl⟩ := List.mem_map.1 hx
  have := List.find?_eq_none.1 h m hm
  simp only [decide_eq_true_eq] at this
  exact this e
theorem marks_some {es : List Mk} {key : ByteArray} {m : Mk} (hn : (es.map (·.k)).Nodup) (h : findM es key = some m) : lk (marksOf es) key = some m.v := by
  obtain ⟨hm, rfl⟩ := findM_some h
  exact lk_some (by rw [marks_fst]; exact hn) (List.mem_map.2 ⟨m, hm, rfl⟩)

/-- 'New()'. -/
theorem bkNew {w0 w : World} {R : HP} (S : Sat w0 w R) :
    Calls Try.prog 28 #[] w fun en w' => ∃ b, en = .returned (pt b) ∧ Sat w0 w' (bk b [] 0 * R) := by
  go_enter Try.func28, Try.ntmps28
  have hmm := @run_makeMap Try.prog
  go_wp2
  go_ret
  refine ⟨_, rfl, ?_⟩
  have S1 := ((S.gmap_made (kv := Value.string)).rmap_made).alloc (.cells #[.map (some w.heap.size), .map (some (w.heap.size + 1)), .int .u64 0] 80)
  simp only [World.size_alloc] at S1
  refine Sat.bk_shut (mb := w.heap.size) (rb := w.heap.size + 1) ⟨by simp, by simp, by simp, by omega, by omega, by simp⟩ (S1.cong ?_)
  show _ * (rmap (w.heap.size + 1) (fun _ => []) * (gmap Value.string w.heap.size [] * R)) = _
  rw [show rowOf [] = fun _ => [] from funext fun n => by simp [rowOf]]
  simp only [marksOf, List.map_nil]
  ac_rfl
/-- 'Len'. -/
theorem bkLen_nil (w : World) : Calls Try.prog 37 #[.pointer none] w fun en w' => en = .returned (.int .i64 0) ∧ w' = w := by
  go_enter Try.func37, Try.ntmps37
  go_wp2_with fail
  go_ret
  exact ⟨rfl, rfl⟩
theorem bkLen {w0 w : World} {b : Nat} {es : List Mk} {now : Int} {R : HP} (S : Sat w0 w (bk b es now * R)) :
    Calls Try.prog 37 #[pt b] w fun en w' => en = .returned (.int .i64 es.length) ∧ w' = w := by
  obtain ⟨mb, rb, hok, S1⟩ := S.bk_open
  obtain ⟨c0, c1, c2, -⟩ := blk3 S1.blk
  have hl := S1.p2.run_len fmap 3
  rw [show (marksOf es).length = es.length by simp [marksOf]] at hl
  generalize es.length = m at *
  clear S S1 hok
  go_enter Try.func37, Try.ntmps37
  go_wp2_with fail
  go_ret
  exact ⟨rfl, rfl⟩
/-- 'Count'. -/
theorem bkCount_nil (key : ByteArray) (w : World) : Calls Try.prog 30 #[.pointer none, .string key] w fun en w' => en = .returned (.int .i64 0) ∧ w' = w := by
  go_enter Try.func30, Try.ntmps30
  go_wp2_with fail
  go_ret
  exact ⟨rfl, rfl⟩
theorem bkCount {w0 w : World} {b : Nat} {es : List Mk} {now : Int} {key : ByteArray} {R : HP} (S : Sat w0 w (bk b es now * R)) :
    Calls Try.prog 30 #[pt b, .string key] w fun en w' => en = .returned (.int .i64 (cntOf es key)) ∧ w' = w := by
  obtain ⟨mb, rb, hok, S1⟩ := S.bk_open
  obtain ⟨c0, c1, c2, -⟩ := blk3 S1.blk
  have hl := S1.p2.run_lookup keys_string fmap fsk fzero false key
  have hfl := ffield
  clear S S1
  cases hf : findM es key with
  | none =>
    rw [marks_none hf] at hl
    have hc : cntOf es key = 0 := by unfold cntOf; rw [hf]; rfl
    rw [hc]
    clear hf hok hc
    go_enter Try.func30, Try.ntmps30
    go_wp2_with fail
    go_ret
    exact ⟨rfl, rfl⟩
  | some m =>
    rw [marks_some hok.ks hf] at hl
    unfold Mk.v at hl
    have hc : cntOf es key = m.c := by unfold cntOf; rw [hf]; rfl
    rw [hc]
    clear hf hok hc
    go_enter Try.func30, Try.ntmps30
    go_wp2_with fail
    go_ret
    exact ⟨rfl, rfl⟩
end Go.Sl
