/-
  Package freq: the comparison that Halve sorts by.
-/
import Derived.Test.YtgkjendknckibaaFqN
import Derived.Test.YtgkjendknckibaaFqP
namespace Go.Sl
open Go.RowKit Go.Proofs Go.Proofs.YtgkjendknckibaaW.PrintWords
set_option linter.unusedVariables false
set_option linter.unusedSimpArgs false
set_option maxRecDepth 100000

def cmpI (x y : Int) : Int := if x < y then -1 else if y < x then 1 else 0
theorem nan_calls (x : Int) (W : World) : Calls Try.prog 67 #[.int .u64 x] W fun en w' => en = .returned (.bool false) ∧ w' = W := by
  go_enter Try.func67, Try.ntmps67
  go_wp2_with fail
  go_ret
  exact ⟨rfl, rfl⟩
theorem cmp_calls (x y : Int) (W : World) : Calls Try.prog 54 #[.int .u64 x, .int .u64 y] W fun en w' => en = .returned (.int .i64 (cmpI x y)) ∧ w' = W := by
  by_cases h1 : x < y
  · have e : cmpI x y = -1 := by unfold cmpI; rw [if_pos h1]
    have d1 : decide (x < y) = true := decide_eq_true h1
    rw [e]
    clear e h1
    go_enter Try.func54, Try.ntmps54
    go_wp2_with fail
    refine (nan_calls x W).mono ?_
    rintro en w1 ⟨rfl, rfl⟩
    go_wp2_with fail
    refine (nan_calls y _).mono ?_
    rintro en w1 ⟨rfl, rfl⟩
    go_wp2_with fail
    go_ret
    exact ⟨rfl, rfl⟩
  · have d1 : decide (x < y) = false := decide_eq_false h1
    by_cases h2 : y < x
    · have e : cmpI x y = 1 := by unfold cmpI; rw [if_neg h1, if_pos h2]
      have d2 : decide (y < x) = true := decide_eq_true h2
      rw [e]
      clear e h1
      go_enter Try.func54, Try.ntmps54
      go_wp2_with fail
      refine (nan_calls x W).mono ?_
      rintro en w1 ⟨rfl, rfl⟩
      go_wp2_with fail
      refine (nan_calls y _).mono ?_
      rintro en w1 ⟨rfl, rfl⟩
      go_wp2_with fail
      go_ret
      exact ⟨rfl, rfl⟩
    · have e : cmpI x y = 0 := by unfold cmpI; rw [if_neg h1, if_neg h2]
      have d2 : decide (y < x) = false := decide_eq_false h2
      rw [e]
      clear e
      go_enter Try.func54, Try.ntmps54
      go_wp2_with fail
      refine (nan_calls x W).mono ?_
      rintro en w1 ⟨rfl, rfl⟩
      go_wp2_with fail
      refine (nan_calls y _).mono ?_
      rintro en w1 ⟨rfl, rfl⟩
      go_wp2_with fail
      go_ret
      exact ⟨rfl, rfl⟩

/-- The mark that the book reads under a key. -/
theorem marks_when {es : List Mk} {now : Int} (ho : FOk es now) (key : ByteArray) : ∃ c, (lk (marksOf es) key).getD (.agg #[.int .i64 0, .int .u64 0]) = .agg #[.int .i64 c, .int .u64 (whenOf es key)] := by
  unfold whenOf
  cases hf : findM es key with
  | none => exact ⟨0, by rw [marks_none hf]; rfl⟩
  | some m => exact ⟨m.c, by rw [marks_some ho.ks hf]; rfl⟩
theorem ffield2 (v0 v1 : Value) (w : World) : (Instr.field 89 (.agg #[v0, v1]) 1).run Try.prog w = .ok v1 w := by kernel_rfl
theorem cmpCells {w0 w : World} {cb b mb rb : Nat} {now : Int} {t1 t2 : TypeId} {Y : HP} (S : Sat w0 w (pts cb (.cells #[pt b] t1 (0, 0)) * (pts b (.cells #[.map (some mb), .map (some rb), .int .u64 now] t2 (0, 0)) * Y))) :
    w.cell? ⟨cb, 0, none⟩ = some (pt b) ∧ w.cell? ⟨b, 0, none⟩ = some (.map (some mb)) ∧ w.cell? ⟨b, 1, none⟩ = some (.map (some rb)) ∧ w.cell? ⟨b, 2, none⟩ = some (.int .u64 now) := by
  have c0 := (blk1 S.blk).1
  obtain ⟨r0, r1, r2, -⟩ := blk3 S.p2.blk
  exact ⟨c0, r0, r1, r2⟩
/-- 'func(x, y string) int': the world draws. -/
theorem cmpWhen {w0 w : World} {cb b mb rb : Nat} {es : List Mk} {now : Int} {x y : ByteArray} {R : HP} (ho : FOk es now)
    (S : Sat w0 w (pts cb (.cells #[pt b] 56 (0, 0)) * (pts b (.cells #[.map (some mb), .map (some rb), .int .u64 now] 80 (0, 0)) * (gmap Value.string mb (marksOf es) * R)))) :
    Calls Try.prog 53 #[.string x, .string y, pt cb] w fun en w' => en = .returned (.int .i64 (cmpI (whenOf es x) (whenOf es y))) ∧ ∃ q, w' = w.drewN q := by
  obtain ⟨cx, hx⟩ := marks_when ho x
  obtain ⟨cy, hy⟩ := marks_when ho y
  have lx := S.drew.p3.run_lookup keys_string fmap fsk fzero false x
  have ly := S.drew.p3.run_lookup keys_string fmap fsk fzero false y
  rw [if_neg (by decide), hx] at lx
  rw [if_neg (by decide), hy] at ly
  have hfl := ffield2
  generalize whenOf es x = tx at *
  generalize whenOf es y = ty at *
  have cs := cmpCells S
  have HS := Lib.hid S
  clear S hx hy ho
  go_enter Try.func53, Try.ntmps53
  go_wp2_with fail
  go_region_held3 (fun w' => w'.cell? ⟨cb, 0, none⟩ = some (pt b) ∧ w'.cell? ⟨b, 0, none⟩ = some (.map (some mb)) ∧ w'.cell? ⟨b, 1, none⟩ = some (.map (some rb)) ∧ w'.cell? ⟨b, 2, none⟩ = some (.int .u64 now))
    (first | exact cmpCells HS.out.drew | exact cmpCells HS.out)
    ((go_at_call 54; refine (cmp_calls _ _ _).mono ?_; rintro en w' ⟨rfl, rfl⟩))
  all_goals
    go_wp2_with fail
    go_ret
    exact ⟨rfl, 1, rfl⟩
end Go.Sl
