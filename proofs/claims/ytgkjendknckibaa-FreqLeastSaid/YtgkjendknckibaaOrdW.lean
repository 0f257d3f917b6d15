/-
  Package order, ranged over: the iterator's contract, and the functions that range.
-/
import Derived.Test.YtgkjendknckibaaOrd
import Derived.Test.YtgkjendknckibaaRow
import Derived.RangeFuncBound
import Derived.RangeFuncCalls
import Derived.Shelf.RegionOpen
import Derived.OwnWalkIn
import Derived.TacticsInMore
import Derived.LoopNIn
import Derived.LoopIn
import Derived.Sort.LoopGhostIn
namespace Go.Sl
open Go.RowKit Go.Shelf Go.Proofs
attribute [local go_sem] Oper.semAt_some
set_option linter.unusedVariables false
set_option maxRecDepth 100000

theorem ndPtr : Try.prog.underlying 102 = some (.pointer 121) := Try.underlying102
theorem ndInfo : ∃ j, Try.prog.info? 121 = some j ∧ j.size ≠ 0 := by
  have h : (Try.prog.info? 121).map (fun i => i.size) = some 3 := by kernel_rfl
  obtain ⟨j, hj, hs⟩ := Option.map_eq_some_iff.1 h
  exact ⟨j, hj, by omega⟩
abbrev encK (k : ByteArray) : Array Value := #[.string k]
/-- 'Walk' hands the keys, from the oldest on. -/
theorem ordWalk_zero {o lp : Nat} {w0 w : World} {A B : HP} {Ix : List ByteArray → HP} (S : Sat w0 w (ord o [] * A)) (S2 : Sat w0 w B) :
    CallsIn WF 0 Try.prog 68 #[pt o, .func (.yield lp) #[] #[]] w fun e W' => (∃ v, e = .returned v) ∧ Sat w0 W' B := by
    have HS := Lib.hid S
    have HS2 := Lib.hid S2
    clear S S2
    gi_enter Try.func68, Try.ntmps68
    gi_wp2_with (gi_at_call 88; refine (callsIn_wide.2 (ordLen HS.out)).mono ?_; rintro en w' ⟨rfl, rfl⟩)
    refine bodyPost_ret (results_none rfl _ _ _) rfl ?_
    exact ⟨⟨_, rfl⟩, HS2.out⟩
theorem ordWalk_made {o e m lp : Nat} {ys : List KN} {w0 w : World} {I Ix : List ByteArray → HP}
    (hY : ∀ pre x W, pre ++ [x] <+: ys.map (·.2) → Sat w0 W (pts o (.cells #[pt e, .map (some m)] 105 (0, 0)) * (ring 121 e ys * (gmap Value.string m (kns ys) * I pre))) → YieldAt WF 0 Try.prog lp (encK x) W fun en W' =>
      (en = .returned (.bool true) ∧ Sat w0 W' (pts o (.cells #[pt e, .map (some m)] 105 (0, 0)) * (ring 121 e ys * (gmap Value.string m (kns ys) * I (pre ++ [x]))))) ∨ (en = .returned (.bool false) ∧ Sat w0 W' (pts o (.cells #[pt e, .map (some m)] 105 (0, 0)) * (ring 121 e ys * (gmap Value.string m (kns ys) * Ix (pre ++ [x]))))))
    (S : Sat w0 w (pts o (.cells #[pt e, .map (some m)] 105 (0, 0)) * (ring 121 e ys * (gmap Value.string m (kns ys) * I [])))) :
    CallsIn WF 0 Try.prog 68 #[pt o, .func (.yield lp) #[] #[]] w fun en W' => (∃ v, en = .returned v) ∧ (Sat w0 W' (pts o (.cells #[pt e, .map (some m)] 105 (0, 0)) * (ring 121 e ys * (gmap Value.string m (kns ys) * I (ys.map (·.2))))) ∨
      ∃ pre, pre <+: ys.map (·.2) ∧ Sat w0 W' (pts o (.cells #[pt e, .map (some m)] 105 (0, 0)) * (ring 121 e ys * (gmap Value.string m (kns ys) * Ix pre)))) := by
    have HS := Lib.hid S
    have HY := Lib.hid hY
    have HO := Lib.hid S.ord_shut
    obtain ⟨c0, -, -⟩ := blk2 S.blk
    have e2 := (S.p2.ring_end).2.1
    by_cases hys : ys = []
    · subst hys
      clear hY S c0 e2
      gi_enter Try.func68, Try.ntmps68
      gi_wp2_with (gi_at_call 88; refine (callsIn_wide.2 (ordLen HO.out)).mono ?_; rintro en w' ⟨rfl, rfl⟩)
      refine bodyPost_ret (results_none rfl _ _ _) rfl ?_
      exact ⟨⟨_, rfl⟩, .inl HS.out⟩
    · have hlen : ((ys.length : Int) == 0) = false := by
        have := List.length_pos_iff.2 hys
        simp only [beq_eq_false_iff_ne]; omega
      have HYS := Lib.hid hys
      clear hY S hys
      gi_enter Try.func68, Try.ntmps68
      gi_wp2_with (gi_at_call 88; refine (callsIn_wide.2 (ordLen HO.out)).mono ?_; rintro en w' ⟨rfl, rfl⟩)
      clear c0 e2 hlen HO
      gi_loopg [4] ys.length (fun kq v4 wr => ∃ dn rest : List KN, v4 = pt (hdb rest e) ∧ Hid (ys = dn ++ rest) ∧ Hid (rest.length = kq) ∧ Hid (Sat w0 wr (pts o (.cells #[pt e, .map (some m)] 105 (0, 0)) * (ring 121 e ys * (gmap Value.string m (kns ys) * I (dn.map (·.2)))))))
      case atStart => exact ⟨[], ys, rfl, Lib.hid (by simp), Lib.hid (by simp), HS⟩
      case round =>
        clear HS
        obtain ⟨dn, rest, rfl, HX, HK, HSr⟩ := hrel
        obtain ⟨c0, -, -⟩ := blk2 HSr.out.blk
        cases rest with
        | nil =>
          rw [hdb_nil]
          have hq := run_neq_ptr_same (P := Try.prog) wr ⟨e, 0, none⟩ ndPtr ndInfo.choose_spec.1
          gi_wp2_with fail
          refine bodyPost_end (results_none rfl _ _ _) rfl ?_
          refine ⟨⟨_, rfl⟩, .inl ?_⟩
          have e1 := HX.out
          rw [List.append_nil] at e1
          subst e1
          exact HSr.out
        | cons y rest =>
          rw [hdb_cons]
          have S1 := HSr.out
          have hne : y.1 ≠ e := S1.p2.ring_apart y (by rw [HX.out]; simp)
          obtain ⟨⟨ce, he⟩, hys⟩ := S1.p2.ring_blk
          obtain ⟨cy, hcy⟩ := hys y (by rw [HX.out]; simp)
          have hq := run_neq_ptr_other (P := Try.prog) wr ndPtr ndInfo.choose_spec.1 ndInfo.choose_spec.2 (a := ⟨y.1, 0, none⟩) (b := ⟨e, 0, none⟩) (fun h => hne (by injection h)) hcy he
          clear hys hcy he
          rw [HX.out] at S1
          obtain ⟨x0, -, x2, -⟩ := S1.p2.ring_at
          have hp : dn.map (·.2) ++ [y.2] <+: ys.map (·.2) := by rw [HX.out]; exact ⟨rest.map (·.2), by simp⟩
          obtain ⟨fn, tm, as_, bd, hy, hR⟩ := HY.out _ y.2 wr hp HSr.out
          have HPX := Lib.hid hp
          clear S1 hp
          gi_wp2_with fail
          refine hR.mono ?_
          clear hy hR hq x0 x2 c0 HSr
          rintro en W3 (⟨rfl, S3⟩ | ⟨rfl, S3⟩)
          · have S4 := S3
            rw [HX.out] at S4
            obtain ⟨-, -, x2, -⟩ := S4.p2.ring_at
            have HS3 := Lib.hid S3
            clear S3 S4
            gi_wp2_with fail
            gi_roundg rest.length
            case measure => have := HK.out; simp at this; omega
            case rel => exact ⟨dn ++ [y], rest, rfl, Lib.hid (by rw [HX.out]; simp), Lib.hid rfl, by rw [List.map_append]; exact HS3⟩
          · have HS3 := Lib.hid S3
            clear S3
            gi_wp2_with fail
            refine bodyPost_end (results_none rfl _ _ _) rfl ?_
            exact ⟨⟨_, rfl⟩, .inr ⟨_, HPX.out, HS3.out⟩⟩

theorem ordWalk {w0 w : World} {o : Nat} {l : List ByteArray} {R : HP} (S : Sat w0 w (ord o l * R)) :
    ∃ Hd, Sat w0 w (Hd * R) ∧ (∀ w' R', Sat w0 w' (Hd * R') → Sat w0 w' (ord o l * R')) ∧ Iter Try.prog 68 #[pt o] #[] encK Hd l := by
  rcases (S.ord_open) with ⟨rfl, S1⟩ | ⟨e, m, ys, rfl, S1⟩
  · refine ⟨_, S1, fun w' R' h => h.ord_zero, ?_⟩
    intro lp w0 w I Ix hY S
    refine (ordWalk_zero (Ix := Ix) S.ord_zero S).mono ?_
    rintro en w' ⟨h1, h2⟩
    exact ⟨h1, .inl h2⟩
  · refine ⟨pts o (.cells #[pt e, .map (some m)] 105 (0, 0)) * (ring 121 e ys * gmap Value.string m (kns ys)), S1.cong (by ac_rfl), fun w' R' h => Sat.ord_shut (h.cong (by ac_rfl)), ?_⟩
    intro lp w0 w I Ix hY S
    simp only [sep_assoc] at hY S ⊢
    exact ordWalk_made hY S
theorem ordWalk_nil : Iter Try.prog 68 #[.pointer none] #[] encK emp [] := by
  intro lp w0 w I Ix hY S
  show CallsIn WF 0 Try.prog 68 #[.pointer none, .func (.yield lp) #[] #[]] w _
  have HS := Lib.hid S
  clear S hY
  gi_enter Try.func68, Try.ntmps68
  gi_wp2_with (gi_at_call 88; refine (callsIn_wide.2 (ordLen_nil _)).mono ?_; rintro en w' ⟨rfl, rfl⟩)
  refine bodyPost_ret (results_none rfl _ _ _) rfl ?_
  exact ⟨⟨_, rfl⟩, .inl HS.out⟩

/-- 'Oldest'. -/
theorem ordOldest_it {w0 w : World} {p : Value} {l : List ByteArray} {R Hd : HP} (hit : Iter Try.prog 68 #[p] #[] encK Hd l) (S1 : Sat w0 w (Hd * R)) :
    Calls Try.prog 55 #[p] w fun en w' => en = .returned (.tuple #[.string (l.headD ⟨#[]⟩), .bool (!l.isEmpty)]) ∧ Sat w0 w' (Hd * R) := by
  obtain ⟨k0, hk0⟩ : ∃ k0, k0 = w.heap.size := ⟨_, rfl⟩
  have S2 := (S1.alloc (.cells #[.string ⟨#[]⟩] 9)).alloc (.cells #[.bool false] 4)
  simp only [World.size_alloc] at S2
  have HS2 := Lib.hid S2
  have HI := Lib.hid hit
  have HK0 := Lib.hid hk0
  clear S1 S2 hit hk0
  refine (callsIn_wide (n := 0)).1 ?_
  refine callsIn_of_wp_marks Try.func55 rfl trivial ?_
  simp only [Try.ntmps55, List.size_toArray, List.length_cons, List.length_nil, Nat.reduceAdd, Nat.reduceSub, Array.replicate_succ, Array.replicate_zero, List.push_toArray, List.append_toArray, List.nil_append, List.cons_append]
  gi_wp2_with fail
  rw [← HK0.out]
  refine wpIn_rangeFunc_sl (w0 := w0) (gf := 68) (la := #[p]) (lb := #[]) rfl (enters_of Try.func68 (by kernel_rfl) rfl) HI.out (fun _ => rfl)
    (fun pre => wh (pre = []) (pts k0 (.cells #[.string ⟨#[]⟩] 9) * (pts (k0 + 1) (.cells #[.bool false] 4) * R)))
    (fun c pre => wh (c = .ret ∧ pre ≠ []) (pts k0 (.cells #[.string (pre.headD ⟨#[]⟩)] 9) * (pts (k0 + 1) (.cells #[.bool true] 4) * R)))
    ?start ?round ?done ?stop
  case start =>
    have S := HS2.out
    rw [← HK0.out] at S
    rw [mul_wh]
    exact Sat.mk_wh rfl (S.cong (by ac_rfl))
  case round =>
    clear HS2
    intro lp pre x W R1 hp Sa
    obtain ⟨hpre, Sb⟩ := Sa.p2.wh1
    subst hpre
    have HS := Lib.hid Sb
    clear Sa Sb hp
    gi_wp2_with fail
    refine ⟨Hd * (pts k0 (.cells #[.string ⟨#[]⟩] 9) * (pts (k0 + 1) (.cells #[.bool false] 4) * R)), HS.out.cong (by ac_rfl), ?_⟩
    clear HS W
    intro W r R2 S
    have S1 : Sat w0 W (pts k0 (.cells #[.string ⟨#[]⟩] 9) * (pts (k0 + 1) (.cells #[.bool false] 4) * (R * (Hd * (pts lp (.loop r) * R2))))) := S.cong (by ac_rfl)
    obtain ⟨c0, f0⟩ := blk1 S1.blk
    obtain ⟨c1, f1⟩ := blk1 S1.p2.blk
    have S2 := ((S1.setCell (i := 0) (.string x)).p2.setCell (i := 0) (.bool true)).p2
    have HS2 := Lib.hid S2
    clear S S1 S2
    gi_wp2_with fail
    refine Sat.cong (Sat.mk_wh (p := Code.ret = Code.ret ∧ [x] ≠ []) ⟨rfl, by simp⟩ HS2.out) ?_
    rw [wh_mul, mul_wh]
    congr 1
    show pts k0 (.cells #[.string x] 9) * (pts (k0 + 1) (.cells #[.bool true] 4) * _) = _
    ac_rfl
  case done =>
    clear HS2 HI
    intro D W Sa
    rw [mul_wh, mul_wh] at Sa
    obtain ⟨hl, Sb⟩ := Sa.wh
    subst hl
    have S1 : Sat w0 W (pts k0 (.cells #[.string ⟨#[]⟩] 9) * (pts (k0 + 1) (.cells #[.bool false] 4) * (pts D (.deferred (some [])) * (Hd * R)))) := Sb.cong (by ac_rfl)
    obtain ⟨c0, f0⟩ := blk1 S1.blk
    obtain ⟨c1, f1⟩ := blk1 S1.p2.blk
    have S2 := ((S1.setCell (i := 0) (.string ⟨#[]⟩)).p2.setCell (i := 0) (.bool false)).p2
    have HS2 := Lib.hid S2
    clear Sa Sb S1 S2
    gi_wp2_with fail
    refine leaves_mark (A := pts k0 (.cells #[.string ⟨#[]⟩] 9) * (pts (k0 + 1) (.cells #[.bool false] 4) * (Hd * R))) (HS2.out.cong (by ac_rfl)) ?_
    clear HS2 c0 f0 c1 f1 W
    intro W S
    obtain ⟨c0, f0⟩ := blk1 S.p2.blk
    obtain ⟨c1, f1⟩ := blk1 S.p3.blk
    exact ⟨_, by simp [results, Try.results55, go_sem, c0, c1], rfl, S.drop1.drop1.drop1⟩
  case stop =>
    clear HS2 HI
    intro D c pre W hp Sa
    rw [mul_wh, mul_wh] at Sa
    obtain ⟨⟨hc, hne⟩, Sb⟩ := Sa.wh
    subst hc
    have hl : pre.headD ⟨#[]⟩ = l.headD ⟨#[]⟩ ∧ l.isEmpty = false := by
      obtain ⟨t, rfl⟩ := hp
      cases pre with
      | nil => exact absurd rfl hne
      | cons a b => exact ⟨rfl, rfl⟩
    rw [hl.1] at Sb
    have HL := Lib.hid hl.2
    have HS := Lib.hid Sb
    clear Sa Sb hne hp hl
    gi_wp2_with fail
    refine leaves_mark (A := pts k0 (.cells #[.string (l.headD ⟨#[]⟩)] 9) * (pts (k0 + 1) (.cells #[.bool true] 4) * (Hd * R))) (HS.out.cong (by ac_rfl)) ?_
    clear HS W
    intro W S
    obtain ⟨c0, f0⟩ := blk1 S.p2.blk
    obtain ⟨c1, f1⟩ := blk1 S.p3.blk
    exact ⟨_, by simp [results, Try.results55, go_sem, c0, c1]; rfl, by rw [HL.out]; simp, S.drop1.drop1.drop1⟩

theorem ordOldest {w0 w : World} {o : Nat} {l : List ByteArray} {R : HP} (S : Sat w0 w (ord o l * R)) :
    Calls Try.prog 55 #[pt o] w fun en w' => en = .returned (.tuple #[.string (l.headD ⟨#[]⟩), .bool (!l.isEmpty)]) ∧ Sat w0 w' (ord o l * R) := by
  obtain ⟨Hd, S1, hback, hit⟩ := ordWalk S
  exact (ordOldest_it hit S1).mono fun en w' h => ⟨h.1, hback _ _ h.2⟩
theorem ordOldest_nil {w0 w : World} {R : HP} (S : Sat w0 w R) :
    Calls Try.prog 55 #[.pointer none] w fun en w' => en = .returned (.tuple #[.string ⟨#[]⟩, .bool false]) ∧ Sat w0 w' R :=
  (ordOldest_it ordWalk_nil (by rw [emp_mul]; exact S)).mono fun en w' h => ⟨h.1, by have := h.2; rwa [emp_mul] at this⟩
theorem strInfo : (Try.prog.info? 9).map (fun i => (i.zero, i.size, i.bytes)) = some (some (.string ⟨#[]⟩), 1, 16) := by kernel_rfl
/-- 'All'. -/
theorem ordAll_it {w0 w : World} {p : Value} {l : List ByteArray} {R Hd : HP} (hlen : l.length ≤ 1000000000) (hit : Iter Try.prog 68 #[p] #[] encK Hd l) (S1 : Sat w0 w (Hd * R)) :
    Calls Try.prog 56 #[p] w fun en w' => ∃ v, en = .returned v ∧ Sat w0 w' (row 9 1 v l.length (l.map Value.string) * (Hd * R)) := by
  obtain ⟨k0, hk0⟩ : ∃ k0, k0 = w.heap.size := ⟨_, rfl⟩
  have S2 := (S1.alloc (.cells #[.slice none 0 0] 32))
  have HS2 := Lib.hid S2
  have HI := Lib.hid hit
  have HK0 := Lib.hid hk0
  have HL := Lib.hid hlen
  clear S1 S2 hit hk0 hlen
  refine (callsIn_wide (n := 0)).1 ?_
  refine callsIn_of_wp_marks Try.func56 rfl trivial ?_
  simp only [Try.ntmps56, List.size_toArray, List.length_cons, List.length_nil, Nat.reduceAdd, Nat.reduceSub, Array.replicate_succ, Array.replicate_zero, List.push_toArray, List.append_toArray, List.nil_append, List.cons_append]
  gi_wp2_with fail
  rw [← HK0.out]
  refine wpIn_rangeFunc_sl (w0 := w0) (gf := 68) (la := #[p]) (lb := #[]) rfl (enters_of Try.func68 (by kernel_rfl) rfl) HI.out (fun _ => rfl)
    (fun pre => ex fun v => pts k0 (.cells #[v] 32) * (row 9 1 v pre.length (pre.map Value.string) * R))
    (fun c pre => wh False emp)
    ?start ?round ?done ?stop
  case start =>
    have S := HS2.out
    rw [← HK0.out] at S
    rw [mul_ex]
    refine Sat.mk_ex (.slice none 0 0) ?_
    have := Sat.row_nil S 9 1
    exact this.cong (by simp only [List.length_nil, List.map_nil]; ac_rfl)
  case round =>
    clear HS2
    intro lp pre x W R1 hp Sa
    have hpl : pre.length + 1 ≤ 1000000000 := by
      have := hp.length_le
      have := HL.out
      simp at *
      omega
    have HPL := Lib.hid hpl
    obtain ⟨v, Sb⟩ := Sa.p2.ex1
    have HS := Lib.hid Sb
    clear Sa Sb hp hpl
    gi_wp2_with fail
    refine ⟨pts k0 (.cells #[v] 32) * (row 9 1 v pre.length (pre.map Value.string) * (Hd * R)), HS.out.cong (by ac_rfl), ?_⟩
    clear HS W
    intro W r R2 S
    have S1 : Sat w0 W (row 9 1 v pre.length (pre.map Value.string) * (pts k0 (.cells #[v] 32) * (R * (Hd * (pts lp (.loop r) * R2))))) := S.cong (by ac_rfl)
    obtain ⟨c0, f0⟩ := blk1 S1.p2.blk
    have S2 := (S1.alloc (.cells #[.string x] 9)).p2
    obtain ⟨v', W', hr, S3⟩ := S2.run_append 32 32 Try.underlying32 strInfo rfl (by decide) ⟨W.heap.size, 0, none⟩ 1 1 [.string x] rfl (cell_one_new _ _ _) (by simp [Value.oneCell']) (by have := HPL.out; unfold maxLen; omega) (by have := HPL.out; omega)
    obtain ⟨g', cap', rfl⟩ := row_succ S3
    obtain ⟨d0, d1⟩ := blk1 S3.p3.blk
    have S4 := (S3.p3.setCell (i := 0) (.slice (some ⟨g', 0, none⟩) (pre.length + 1) cap'))
    have HS4 := Lib.hid S4
    have hlt := S1.p2.lt
    clear S S1 S2 S3 S4
    gi_wp2_with (gi_at_builtin; refine wpListIn_append_eq rfl _ _ _ _ rfl rfl rfl hr ?_)
    show Sat w0 _ (Hd * ((ex fun v => pts k0 (.cells #[v] 32) * (row 9 1 v (pre ++ [x]).length ((pre ++ [x]).map Value.string) * R)) * _))
    rw [ex_mul, mul_ex]
    refine Sat.mk_ex (.slice (some ⟨g', 0, none⟩) (pre.length + 1) cap') ?_
    have S5 := HS4.out.p3.drop1
    refine S5.cong ?_
    rw [List.length_append, List.map_append]
    show pts k0 (.cells #[.slice (some ⟨g', 0, none⟩) (pre.length + 1) cap'] 32) * (row 9 1 (.slice (some ⟨g', 0, none⟩) (pre.length + 1) cap') (pre.length + 1) (pre.map Value.string ++ [.string x]) * _) =
      Hd * (pts k0 (.cells #[.slice (some ⟨g', 0, none⟩) (pre.length + 1) cap'] 32) * (row 9 1 (.slice (some ⟨g', 0, none⟩) (pre.length + 1) cap') (pre.length + 1) (pre.map Value.string ++ [.string x]) * R) * _)
    ac_rfl
  case done =>
    clear HS2 HI
    intro D W Sa
    rw [mul_ex, mul_ex] at Sa
    obtain ⟨v, Sb⟩ := Sa.ex
    have S1 : Sat w0 W (pts k0 (.cells #[v] 32) * (pts D (.deferred (some [])) * (row 9 1 v l.length (l.map Value.string) * (Hd * R)))) := Sb.cong (by ac_rfl)
    obtain ⟨c0, f0⟩ := blk1 S1.blk
    have HS := Lib.hid S1
    clear Sa Sb S1
    gi_wp2_with fail
    refine leaves_mark (A := pts k0 (.cells #[v] 32) * (row 9 1 v l.length (l.map Value.string) * (Hd * R))) (HS.out.cong (by ac_rfl)) ?_
    clear HS c0 f0 W
    intro W S
    refine ⟨_, by simp [results, Try.results56, go_sem]; rfl, _, rfl, ?_⟩
    exact S.drop1.drop1.cong (by ac_rfl)
  case stop =>
    intro D c pre W hp Sa
    rw [mul_wh, mul_wh] at Sa
    exact Sa.wh.1.elim
theorem ordAll {w0 w : World} {o : Nat} {l : List ByteArray} {R : HP} (hlen : l.length ≤ 1000000000) (S : Sat w0 w (ord o l * R)) :
    Calls Try.prog 56 #[pt o] w fun en w' => ∃ v, en = .returned v ∧ Sat w0 w' (row 9 1 v l.length (l.map Value.string) * (ord o l * R)) := by
  obtain ⟨Hd, S1, hback, hit⟩ := ordWalk S
  exact (ordAll_it hlen hit S1).mono fun en w' ⟨v, h1, h2⟩ => ⟨v, h1, (hback _ _ (h2.p2)).p2⟩
theorem ordAll_nil {w0 w : World} {R : HP} (S : Sat w0 w R) :
    Calls Try.prog 56 #[.pointer none] w fun en w' => ∃ A c, en = .returned (.slice A 0 c) ∧ Sat w0 w' R := by
  refine (ordAll_it (w0 := w0) (R := R) (by simp) ordWalk_nil (by rw [emp_mul]; exact S)).mono ?_
  rintro en w' ⟨v, rfl, h2⟩
  rw [emp_mul] at h2
  obtain ⟨_, h⟩ := h2.row_open
  rcases h with ⟨rfl, _, _, h⟩ | ⟨g, cap, cur, rfl, hn, hm, hs, ht, h⟩
  · exact ⟨_, _, rfl, h⟩
  · exact ⟨_, _, rfl, h2.drop1⟩
end Go.Sl
