/-
  Package wait: a row that is none.
-/
import Derived.Test.YtddkongfhffajaaWaitF
import Derived.Test.YtddkongfhffajaaRf
import Derived.RangeFuncBound
import Derived.RangeFuncCalls
import Derived.Shelf.RegionOpen
import Derived.OwnWalkIn
import Derived.TacticsInMore
import Derived.LoopNIn
import Derived.LoopIn
import Derived.Sort.LoopGhostIn
namespace Go.Sl
open Go.RowKit Go.Shelf Go.Proofs Go.Proofs.YtddkongfhffajaaW.PrintWords
attribute [local go_sem] Oper.semAt_some
set_option linter.unusedVariables false
set_option linter.unusedSimpArgs false
set_option maxRecDepth 100000

theorem wtHas_nil (h : Int) (w : World) : Calls Try.prog 29 #[.pointer none, .int .i64 h] w fun en w' => en = .returned (.bool false) ∧ w' = w := by
  go_enter Try.func29, Try.ntmps29
  go_wp2_with fail
  go_ret
  exact ⟨rfl, rfl⟩
theorem wtLen_nil (w : World) : Calls Try.prog 37 #[.pointer none] w fun en w' => en = .returned (.int .i64 0) ∧ w' = w := by
  go_enter Try.func37, Try.ntmps37
  go_wp2_with fail
  go_ret
  exact ⟨rfl, rfl⟩
theorem wtAdd_nil {w0 w : World} {A : Option Addr} {m c : Nat} {h f6 : Int} {f2 f3 f5 : Bool} {f4 : ByteArray} {R : HP} (S : Sat w0 w R) :
    Calls Try.prog 27 #[.pointer none, .agg #[.int .i64 h, .slice A m c, .bool f2, .bool f3, .string f4, .bool f5, .int .i64 f6]] w fun en w' => en = .returned (.bool false) ∧ Sat w0 w' R := by
  have HS := Lib.hid (S.alloc (.cells #[.int .i64 h, .slice A m c, .bool f2, .bool f3, .string f4, .bool f5, .int .i64 f6] 50)).drop1
  clear S
  go_enter Try.func27, Try.ntmps27
  go_wp2_with fail
  go_ret
  exact ⟨rfl, HS.out⟩
theorem wtDrop_nil {w0 w : World} {h : Int} {R : HP} (S : Sat w0 w R) :
    Calls Try.prog 25 #[.pointer none, .int .i64 h] w fun en w' => en = .returned (.tuple #[.agg #[.int .i64 0, .slice none 0 0, .bool false, .bool false, .string ⟨#[]⟩, .bool false, .int .i64 0], .bool false]) ∧ Sat w0 w' R := by
  have S2 := (S.alloc (.cells #[.int .i64 0, .slice none 0 0, .bool false, .bool false, .string ⟨#[]⟩, .bool false, .int .i64 0] 50))
  have HS := Lib.hid S2.drop1
  have HB := Lib.hid S2.blk
  clear S S2
  go_enter Try.func25, Try.ntmps25
  go_wp2_with fail
  refine (wtHas_nil h _).mono ?_
  rintro en w1 ⟨rfl, rfl⟩
  go_wp2_with fail
  refine bodyPost_ret (results_ct rfl _ _ w.heap.size 50 _ (0, 0) _ rfl HB.out Try.underlying50 rfl wsize) rfl ?_
  exact ⟨rfl, HS.out⟩
theorem wtFirst_nil {w0 w : World} {key : ByteArray} {R : HP} (S : Sat w0 w R) :
    Calls Try.prog 28 #[.pointer none, .string key] w fun en w' => en = .returned (.tuple #[.agg #[.int .i64 0, .slice none 0 0, .bool false, .bool false, .string ⟨#[]⟩, .bool false, .int .i64 0], .bool false]) ∧ Sat w0 w' R := by
  have S2 := (S.alloc (.cells #[.int .i64 0, .slice none 0 0, .bool false, .bool false, .string ⟨#[]⟩, .bool false, .int .i64 0] 50))
  have HS := Lib.hid S2.drop1
  have HB := Lib.hid S2.blk
  clear S S2
  go_enter Try.func28, Try.ntmps28
  go_wp2_with fail
  refine bodyPost_ret (results_ct rfl _ _ w.heap.size 50 _ (0, 0) _ rfl HB.out Try.underlying50 rfl wsize) rfl ?_
  exact ⟨rfl, HS.out⟩

abbrev encP (p : Pl) : Array Value := #[p.v]
theorem ordered_nil : Iter Try.prog 42 #[.pointer none] #[] encP emp [] := by
  intro lp w0 w I Ix hY S
  show CallsIn WF 0 Try.prog 42 #[.pointer none, .func (.yield lp) #[] #[]] w _
  have HS := Lib.hid S
  clear S hY
  gi_enter Try.func42, Try.ntmps42
  gi_wp2_with fail
  refine bodyPost_ret (results_none rfl _ _ _) rfl ?_
  exact ⟨⟨_, rfl⟩, .inl HS.out⟩
/-- 'All', of none. -/
theorem wtAll_nil {w0 w : World} {R : HP} (S1 : Sat w0 w R) :
    Calls Try.prog 36 #[.pointer none] w fun en w' => en = .returned (.slice none 0 0) ∧ Sat w0 w' R := by
  obtain ⟨k0, hk0⟩ : ∃ k0, k0 = w.heap.size := ⟨_, rfl⟩
  have S2 := (S1.alloc (.cells #[.slice none 0 0] 60))
  rw [← hk0] at S2
  have HS2 := Lib.hid S2
  have HK0 := Lib.hid hk0
  clear S1 S2 hk0
  refine (callsIn_wide (n := 0)).1 ?_
  refine callsIn_of_wp_marks Try.func36 rfl trivial ?_
  simp only [Try.ntmps36, List.size_toArray, List.length_cons, List.length_nil, Nat.reduceAdd, Nat.reduceSub, Array.replicate_succ, Array.replicate_zero, List.push_toArray, List.append_toArray, List.nil_append, List.cons_append]
  gi_wp2_with fail
  rw [← HK0.out]
  refine wpIn_rangeFunc_sl (w0 := w0) (gf := 42) (la := #[.pointer none]) (lb := #[]) rfl (enters_of Try.func42 (by kernel_rfl) rfl) ordered_nil (fun _ => rfl)
    (fun pre => pts k0 (.cells #[.slice none 0 0] 60) * R)
    (fun c pre => wh False emp)
    ?start ?round ?done ?stop
  case start => rw [emp_mul]; exact HS2.out
  case round =>
    intro lp pre x W R1 hp Sa
    exact absurd hp.length_le (by simp)
  case done =>
    clear HS2
    intro D W Sa
    rw [emp_mul] at Sa
    obtain ⟨c0, f0⟩ := blk1 Sa.p2.blk
    have HS := Lib.hid Sa
    clear Sa
    gi_wp2_with fail
    refine leaves_mark (A := pts k0 (.cells #[.slice none 0 0] 60) * R) HS.out ?_
    clear HS c0 f0 W
    intro W S
    refine ⟨_, by simp [results, Try.results36, go_sem], rfl, ?_⟩
    exact S.drop1.drop1
  case stop =>
    intro D c pre W hp Sa
    rw [mul_wh, mul_wh] at Sa
    exact Sa.wh.1.elim
/-- 'Due', of none. -/
theorem wtDue_nil {w0 w : World} {n : Int} {R : HP} (S1 : Sat w0 w R) :
    Calls Try.prog 32 #[.pointer none, .int .i64 n] w fun en w' => en = .returned (.slice none 0 0) ∧ Sat w0 w' R := by
  obtain ⟨k0, hk0⟩ : ∃ k0, k0 = w.heap.size := ⟨_, rfl⟩
  have S2 := ((S1.alloc (.cells #[.pointer none] 46)).alloc (.cells #[.int .i64 n] 2)).alloc (.cells #[.slice none 0 0] 60)
  simp only [World.size_alloc] at S2
  rw [← hk0] at S2
  have HS2 := Lib.hid S2
  have HK0 := Lib.hid hk0
  clear S1 S2 hk0
  refine (callsIn_wide (n := 0)).1 ?_
  refine callsIn_of_wp_marks Try.func32 rfl trivial ?_
  simp only [Try.ntmps32, List.size_toArray, List.length_cons, List.length_nil, Nat.reduceAdd, Nat.reduceSub, Array.replicate_succ, Array.replicate_zero, List.push_toArray, List.append_toArray, List.nil_append, List.cons_append]
  gi_wp2_with fail
  rw [← HK0.out]
  refine wpIn_rangeFunc_sl (w0 := w0) (gf := 42) (la := #[.pointer none]) (lb := #[]) rfl (enters_of Try.func42 (by kernel_rfl) rfl) ordered_nil (fun _ => rfl)
    (fun pre => pts (k0 + 1 + 1) (.cells #[.slice none 0 0] 60) * R)
    (fun c pre => wh False emp)
    ?start ?round ?done ?stop
  case start => rw [emp_mul]; exact HS2.out.p2.drop1.p2.drop1
  case round =>
    intro lp pre x W R1 hp Sa
    exact absurd hp.length_le (by simp)
  case done =>
    clear HS2
    intro D W Sa
    rw [emp_mul] at Sa
    obtain ⟨c0, f0⟩ := blk1 Sa.p2.blk
    have HS := Lib.hid Sa
    clear Sa
    gi_wp2_with fail
    refine leaves_mark (A := pts (k0 + 1 + 1) (.cells #[.slice none 0 0] 60) * R) HS.out ?_
    clear HS c0 f0 W
    intro W S
    refine ⟨_, by simp [results, Try.results32, go_sem], rfl, ?_⟩
    exact S.drop1.drop1
  case stop =>
    intro D c pre W hp Sa
    rw [mul_wh, mul_wh] at Sa
    exact Sa.wh.1.elim
end Go.Sl
