/-
  Package wait: what is gone through, in order: a map's values, collected.
-/
import Derived.Test.YthhapcgodofpkaaWaitF
import Derived.Test.YthhapcgodofpkaaRfg
import Derived.Test.YthhapcgodofpkaaMpg
import Derived.RangeFuncBound
import Derived.RangeFuncCalls
import Derived.Shelf.RegionOpen
import Derived.OwnWalkIn
import Derived.TacticsInMore
import Derived.LoopNIn
import Derived.LoopIn
import Derived.Sort.LoopGhostIn
import Derived.Test.YthhapcgodofpkaaSoK
import Derived.Test.YthhapcgodofpkaaShW
namespace Go.Sl
open Go.RowKit Go.Shelf Go.Proofs Go.Proofs.YthhapcgodofpkaaW.PrintWords Go.Sort
attribute [local go_sem] Oper.semAt_some
set_option linter.unusedVariables false
set_option linter.unusedSimpArgs false
set_option maxRecDepth 100000

abbrev encV (p : Pl) : Array Value := #[p.v]
def encPl (p : Pl) : List Value := [.int .i64 p.h, p.e, .bool p.f2, .bool p.f3, .string p.f4, .bool p.f5, .int .i64 p.f6, .int .i64 p.c]
theorem dropH_permN {ps : List Pl} (hn : (ps.map (·.h)).Nodup) {p : Pl} (hp : p ∈ ps) : ps.Perm (p :: dropH ps p.h) := by
  obtain ⟨pre, post, rfl⟩ := List.append_of_mem hp
  rw [List.map_append, List.map_cons, List.nodup_append, List.nodup_cons] at hn
  obtain ⟨h1, h2, h3⟩ := hn
  have e1 : dropH pre p.h = pre := List.filter_eq_self.2 fun q hq => by
    simp only [Bool.not_eq_true', decide_eq_false_iff_not]
    exact fun e => h3 _ (List.mem_map.2 ⟨q, hq, rfl⟩) _ List.mem_cons_self e
  have e2 : dropH post p.h = post := List.filter_eq_self.2 fun q hq => by
    simp only [Bool.not_eq_true', decide_eq_false_iff_not]
    exact fun e => h2.1 (List.mem_map.2 ⟨q, hq, e⟩)
  have : dropH (pre ++ p :: post) p.h = pre ++ post := by
    unfold dropH at *
    rw [List.filter_append, List.filter_cons_of_neg (by simp), e1, e2]
  rw [this]
  exact List.perm_middle
abbrev boxM (bx b : Nat) : HP := pts bx (.cells #[.map (some b)] 51 (0, 0))
/-- The iterator that maps.Values makes. -/
theorem valsIter {bx b : Nat} {ps : List Pl} (hn : (ps.map (·.h)).Nodup) :
    IterG Try.prog 29 #[] #[pt bx] encV (fun pre => ∃ rest, (pre ++ rest).Perm ps) (fun ys => ys.Perm ps)
      (boxM bx b * gmap (Value.int .i64) b (byOf ps)) emp (boxM bx b * gmap (Value.int .i64) b (byOf ps)) := by
  intro lp w0 w I Ix J hI hY S
  show CallsIn WF 0 Try.prog 29 #[.func (.yield lp) #[] #[], pt bx] w _
  have hlt := (S.cong (by ac_rfl : _ = boxM bx b * (gmap (Value.int .i64) b (byOf ps) * J))).lt
  obtain ⟨x0, -⟩ := blk1 (S.cong (by ac_rfl : _ = boxM bx b * (gmap (Value.int .i64) b (byOf ps) * J))).blk
  have HS : Hid (Sat w0 w (gmap (Value.int .i64) b (byOf ps) * (boxM bx b * I []))) := Lib.hid (S.cong (by rw [hI, emp_mul]; ac_rfl))
  have HY := Lib.hid hY
  have HN := Lib.hid hn
  clear hY S hI hn
  gi_enter Try.func29, Try.ntmps29
  gi_wp2_with (refine wpListIn_range_sl _ rfl _ _ rfl _ _ bmap rfl HS.out ?_; intro w3 rr S3)
  have HS3 := Lib.hid S3
  clear S3 HS x0 hlt
  gi_loopg [] ps.length (fun kq wr => ∃ pre rest : List Pl, Hid ((pre ++ rest).Perm ps) ∧ Hid (rest.length = kq) ∧ Hid (Sat w0 wr (ranging (Value.int .i64) b rr (byOf ps) (byOf rest) * (boxM bx b * I pre))))
  case atStart => exact ⟨[], ps, Lib.hid (by simp), Lib.hid rfl, HS3⟩
  case round =>
    clear HS3
    obtain ⟨pre, rest, HP, HK, HSr⟩ := hrel
    gi_wp2_with (refine wpListIn_next_sl _ rfl _ rfl (fun _ _ h => by injection h) rfl HSr.out ?_ ?_)
    · intro h0
      have h0' : rest = [] := by unfold byOf at h0; exact List.map_eq_nil_iff.1 h0
      subst h0'
      gi_wp2_with fail
      refine bodyPost_end (results_none rfl _ _ _) rfl ?_
      have hp := HP.out
      rw [List.append_nil] at hp
      exact ⟨⟨_, rfl⟩, .inl ⟨pre, hp, HSr.out.ranging_end.cong (by ac_rfl)⟩⟩
    · intro k v w9 hm hen S9
      obtain ⟨p, hp, ekv⟩ := List.mem_map.1 hm
      injection ekv with ek ev
      subst ek ev
      have hnr : (rest.map (·.h)).Nodup := by
        have := (HP.out.map (·.h)).nodup_iff.2 HN.out
        rw [List.map_append, List.nodup_append] at this
        exact this.2.1
      have hpm : (pre ++ [p] ++ dropH rest p.h).Perm ps := by
        refine List.Perm.trans ?_ HP.out
        rw [List.append_assoc]
        exact ((dropH_permN hnr hp).symm).append_left pre
      have hln : (dropH rest p.h).length < rest.length := by
        have := (dropH_permN hnr hp).length_eq
        simp at this; omega
      rw [byOf_era] at S9
      have S10 := (S9.alloc (.cells #[.int .i64 p.h, p.e, .bool p.f2, .bool p.f3, .string p.f4, .bool p.f5, .int .i64 p.f6, .int .i64 p.c] 57)).drop1
      have S11 : Sat w0 _ ((ranging (Value.int .i64) b rr (byOf ps) (byOf (dropH rest p.h)) * boxM bx b) * I pre) := S10.cong (by ac_rfl)
      unfold Pl.v at hen
      obtain ⟨fn, tm, as_, bd, hy, hR⟩ := HY.out _ pre p _ ⟨_, hpm⟩ S11
      have hv : encV p = #[.agg #[.int .i64 p.h, p.e, .bool p.f2, .bool p.f3, .string p.f4, .bool p.f5, .int .i64 p.f6, .int .i64 p.c]] := rfl
      rw [hv] at hy
      have HPM := Lib.hid hpm
      have HLN := Lib.hid hln
      clear S9 S10 S11 hpm hln hnr hp hm hv HSr
      gi_wp2_with fail
      refine hR.mono ?_
      clear hy hR
      rintro en W3 (⟨rfl, S3⟩ | ⟨rfl, S3⟩)
      · have HS3 : Hid (Sat w0 W3 (ranging (Value.int .i64) b rr (byOf ps) (byOf (dropH rest p.h)) * (boxM bx b * I (pre ++ [p])))) := Lib.hid (S3.cong (by ac_rfl))
        clear S3
        gi_wp2_with fail
        gi_roundg (dropH rest p.h).length
        case measure => have := HK.out; have := HLN.out; omega
        case rel => exact ⟨pre ++ [p], dropH rest p.h, HPM, Lib.hid rfl, HS3⟩
      · have HS3 := Lib.hid (S3.cong (by ac_rfl : _ = ranging (Value.int .i64) b rr (byOf ps) (byOf (dropH rest p.h)) * (boxM bx b * Ix (pre ++ [p]))))
        clear S3
        gi_wp2_with fail
        refine bodyPost_ret (results_none rfl _ _ _) rfl ?_
        exact ⟨⟨_, rfl⟩, .inr ⟨pre ++ [p], ⟨_, HPM.out⟩, HS3.out.ranging_end.cong (by ac_rfl)⟩⟩

theorem plInfo : (Try.prog.info? 57).map (fun i => (i.zero, i.size, i.bytes)) = some (some (.agg #[.int .i64 0, .slice none 0 0, .bool false, .bool false, .string ⟨#[]⟩, .bool false, .int .i64 0, .int .i64 0]), 8, 80) := by kernel_rfl
theorem encPl_one (p : Pl) : ∀ u ∈ encPl p, u.oneCell' = true := fun u hu => by
  simp only [encPl, List.mem_cons, List.not_mem_nil, or_false] at hu
  rcases hu with rfl | rfl | rfl | rfl | rfl | rfl | rfl | rfl <;> rfl
/-- The cells of a block, counted from its first one. -/
theorem blk_news {w : World} {b : Nat} {cur : Array Value} {t : TypeId} {fr : Nat × Nat} {xs : List Value} (h : w.heap[b]? = some (.cells cur t fr)) (e : cur.toList = xs) : ∀ j u, xs[j]? = some u → w.cell? ((⟨b, 0, none⟩ : Addr).add j) = some u := fun j u hj => by
  rw [Addr.add_lit, Nat.zero_add]
  exact cell_of h j (by rw [← e] at hj; simpa using hj)
abbrev rPl (v : Value) (ys : List Pl) : HP := row 57 8 v ys.length (ys.flatMap encPl)
theorem flatPl_len (ys : List Pl) : (ys.flatMap encPl).length = ys.length * 8 := by
  induction ys with
  | nil => rfl
  | cons p ys ih => rw [List.flatMap_cons, List.length_append, ih, List.length_cons]; simp [encPl]; omega
/-- maps.Values. -/
theorem valsCall (b : Nat) (w : World) : Calls Try.prog 25 #[.map (some b)] w fun en w' => en = .returned (.func (.func 29) #[] #[pt w.heap.size]) ∧ w' = w.alloc (.cells #[.map (some b)] 51) := by
  go_enter Try.func25, Try.ntmps25
  go_wp2_with fail
  go_ret
  exact ⟨rfl, rfl⟩
set_option maxHeartbeats 4000000 in
/-- slices.AppendSeq, of a map's values. -/
theorem appendSeqPl {w0 w : World} {bx b : Nat} {ps : List Pl} {R : HP} (hn : (ps.map (·.h)).Nodup) (hlen : ps.length ≤ 1000000) (S1 : Sat w0 w (boxM bx b * (gmap (Value.int .i64) b (byOf ps) * R))) :
    Calls Try.prog 30 #[.slice none 0 0, .func (.func 29) #[] #[pt bx]] w fun en w' => ∃ v ys, ys.Perm ps ∧ en = .returned v ∧ Sat w0 w' (rPl v ys * (boxM bx b * (gmap (Value.int .i64) b (byOf ps) * R))) := by
  obtain ⟨k0, hk0⟩ : ∃ k0, k0 = w.heap.size := ⟨_, rfl⟩
  have S2 := (S1.alloc (.cells #[.slice none 0 0] 64))
  rw [← hk0] at S2
  have HS2 := Lib.hid S2
  have HN := Lib.hid hn
  have HL := Lib.hid hlen
  have HK0 := Lib.hid hk0
  clear S1 S2 hk0 hn hlen
  refine (callsIn_wide (n := 0)).1 ?_
  refine callsIn_of_wp_marks Try.func30 rfl trivial ?_
  simp only [Try.ntmps30, List.size_toArray, List.length_cons, List.length_nil, Nat.reduceAdd, Nat.reduceSub, Array.replicate_succ, Array.replicate_zero, List.push_toArray, List.append_toArray, List.nil_append, List.cons_append]
  gi_wp2_with fail
  rw [← HK0.out]
  refine wpIn_rangeFunc_g (w0 := w0) (gf := 29) (la := #[]) (lb := #[pt bx]) rfl (enters_of Try.func29 (by kernel_rfl) rfl) (valsIter (bx := bx) (b := b) HN.out) (fun _ => rfl)
    (fun pre => emp * (ex fun v => pts k0 (.cells #[v] 64) * (rPl v pre * R)))
    (fun c pre => wh False emp) (ex fun v => pts k0 (.cells #[v] 64) * (rPl v [] * R))
    ?start rfl ?round ?done ?stop
  case start =>
    rw [mul_ex]
    refine Sat.mk_ex (.slice none 0 0) ?_
    have := Sat.row_nil HS2.out 57 8
    exact this.cong (by simp only [List.length_nil, List.flatMap_nil, rPl]; ac_rfl)
  case round =>
    clear HS2
    intro lp Hd pre x W R1 hp Sa
    obtain ⟨rest, hperm⟩ := hp
    have hpl : pre.length + 1 ≤ 1000000 := by
      have := hperm.length_eq
      have := HL.out
      simp at *
      omega
    have HPL := Lib.hid hpl
    dsimp only at Sa
    rw [emp_mul] at Sa
    obtain ⟨v, Sb⟩ := Sa.p2.ex1
    have HS := Lib.hid Sb
    obtain ⟨nb, hnb⟩ : ∃ nb, nb = W.heap.size := ⟨_, rfl⟩
    have S3 := Sb.alloc (.cells #[.int .i64 x.h, x.e, .bool x.f2, .bool x.f3, .string x.f4, .bool x.f5, .int .i64 x.f6, .int .i64 x.c] 57)
    rw [← hnb] at S3
    have HS3 := Lib.hid S3
    have HNB := Lib.hid hnb
    clear Sa Sb hperm hpl S3 HS hnb
    have hv : encV x = #[.agg #[.int .i64 x.h, x.e, .bool x.f2, .bool x.f3, .string x.f4, .bool x.f5, .int .i64 x.f6, .int .i64 x.c]] := rfl
    rw [hv]
    clear hv
    gi_wp2_with fail
    rw [← HNB.out]
    refine ⟨pts nb (.cells #[.int .i64 x.h, x.e, .bool x.f2, .bool x.f3, .string x.f4, .bool x.f5, .int .i64 x.f6, .int .i64 x.c] 57) * (pts k0 (.cells #[v] 64) * (rPl v pre * (Hd * R))), HS3.out.cong (by ac_rfl), ?_⟩
    clear HS3 HNB W
    intro W r R2 S
    have S1 : Sat w0 W (pts k0 (.cells #[v] 64) * (pts nb (.cells #[.int .i64 x.h, x.e, .bool x.f2, .bool x.f3, .string x.f4, .bool x.f5, .int .i64 x.f6, .int .i64 x.c] 57) * (rPl v pre * (R * (Hd * (pts lp (.loop r) * R2)))))) := S.cong (by ac_rfl)
    obtain ⟨c0, f0⟩ := blk1 S1.blk
    obtain ⟨a0, a1, a2, a3, a4, a5, a6, a7, af⟩ := blk8 S1.p2.blk
    have S2 := (S1.alloc (.cells #[.int .i64 x.h, x.e, .bool x.f2, .bool x.f3, .string x.f4, .bool x.f5, .int .i64 x.f6, .int .i64 x.c] 57)).p4
    obtain ⟨v', W', hr, S3⟩ := S2.run_append 64 64 Try.underlying64 plInfo rfl (by decide) ⟨W.heap.size, 0, none⟩ 1 1 (encPl x) rfl (blk_news S2.p2.blk rfl) (encPl_one x) (by have := HPL.out; unfold maxLen; omega) (by have := HPL.out; omega)
    obtain ⟨g', cap', rfl⟩ := row_succ S3
    obtain ⟨d0, d1⟩ := blk1 S3.p3.blk
    have S4 := (S3.p3.setCell (i := 0) (.slice (some ⟨g', 0, none⟩) (pre.length + 1) cap'))
    have HS4 := Lib.hid S4
    have hlt := S1.lt
    have hlt2 := S1.p2.lt
    clear S S1 S2 S3 S4
    gi_wp2_with (gi_at_builtin; refine wpListIn_append_eq rfl _ _ _ _ rfl rfl rfl hr ?_)
    show Sat w0 _ (Hd * ((emp * ex fun v => pts k0 (.cells #[v] 64) * (rPl v (pre ++ [x]) * R)) * _))
    rw [emp_mul, ex_mul, mul_ex]
    refine Sat.mk_ex (.slice (some ⟨g', 0, none⟩) (pre.length + 1) cap') ?_
    have S5 := HS4.out.p3.drop1.p3.drop1
    refine S5.cong ?_
    simp only [rPl, List.length_append, List.flatMap_append, List.flatMap_cons, List.flatMap_nil, List.append_nil, List.length_cons, List.length_nil, Nat.zero_add]
    ac_rfl
  case done =>
    clear HS2
    intro D ys W hys Sa
    rw [emp_mul, mul_ex, mul_ex] at Sa
    obtain ⟨v, Sb⟩ := Sa.ex
    have S1 : Sat w0 W (pts k0 (.cells #[v] 64) * (pts D (.deferred (some [])) * (rPl v ys * (boxM bx b * (gmap (Value.int .i64) b (byOf ps) * R))))) := Sb.cong (by ac_rfl)
    obtain ⟨c0, f0⟩ := blk1 S1.blk
    have HS := Lib.hid S1
    have HYS := Lib.hid hys
    clear Sa Sb S1 hys
    gi_wp2_with fail
    refine leaves_mark (A := pts k0 (.cells #[v] 64) * (rPl v ys * (boxM bx b * (gmap (Value.int .i64) b (byOf ps) * R)))) (HS.out.cong (by ac_rfl)) ?_
    clear HS c0 f0 W
    intro W S
    refine ⟨_, by simp [results, Try.results30, go_sem]; rfl, _, ys, HYS.out, rfl, ?_⟩
    exact S.drop1.drop1
  case stop =>
    intro D c pre W hp Sa
    rw [mul_wh, mul_wh] at Sa
    exact Sa.wh.1.elim

/-- slices.Collect(maps.Values(m)). -/
theorem collectPl {w0 w : World} {bx b : Nat} {ps : List Pl} {R : HP} (hn : (ps.map (·.h)).Nodup) (hlen : ps.length ≤ 1000000) (S : Sat w0 w (boxM bx b * (gmap (Value.int .i64) b (byOf ps) * R))) :
    Calls Try.prog 27 #[.func (.func 29) #[] #[pt bx]] w fun en w' => ∃ v ys, ys.Perm ps ∧ en = .returned v ∧ Sat w0 w' (rPl v ys * (boxM bx b * (gmap (Value.int .i64) b (byOf ps) * R))) := by
  have HS := Lib.hid S
  have HN := Lib.hid hn
  have HL := Lib.hid hlen
  clear S hn hlen
  go_enter Try.func27, Try.ntmps27
  go_wp2_with fail
  refine (appendSeqPl HN.out HL.out HS.out).mono ?_
  rintro en w1 ⟨v, ys, hp, rfl, S1⟩
  have HS1 := Lib.hid S1
  have HP := Lib.hid hp
  clear S1 hp HS
  go_wp2_with fail
  go_ret
  exact ⟨v, ys, HP.out, rfl, HS1.out⟩

/-- Elements that are their cells, whatever these are. -/
def Kd.raw {α : Type} (enc : α → List Value) (n : Nat) (h1 : ∀ x, (enc x).length = n) (h2 : ∀ x, ∀ u ∈ enc x, u.oneCell' = true) : Kd α where
  sz := n
  E := []
  K := fun _ x cs => cs = enc x
  M := fun _ _ _ x cs => cs = enc x
  K_len := fun {_ x _} h => by subst h; exact h1 x
  K_one := fun {_ x _} h => by subst h; exact h2 x
  K_below := fun _ h => h
  K_of_M := fun h => h
  M_mono := fun _ h => h
  M_bound := fun h => h
  M_move := fun _ h => h
  M_lower := fun _ h => h
theorem flatRaw {α : Type} {enc : α → List Value} {n : Nat} {h1 : ∀ x, (enc x).length = n} {h2 : ∀ x, ∀ u ∈ enc x, u.oneCell' = true} (hp : 0 < n) : Flat (Kd.raw enc n h1 h2) enc := ⟨h1, fun _ _ => rfl, fun _ _ _ _ => rfl, hp⟩
/-- A place that came, the number of its coming not too great to be told from another. -/
abbrev PlB := { p : Pl // 0 ≤ p.c ∧ p.c ≤ 1000000 }
instance : Inhabited PlB := ⟨⟨⟨0, 0, [], 0, 0, false, false, ⟨#[]⟩, false, 0⟩, by decide, by decide⟩⟩
abbrev encB (p : PlB) : List Value := encPl p.1
def kB : Kd PlB := Kd.raw encB 8 (fun _ => rfl) (fun x => encPl_one x.1)
theorem flatB : Flat kB encB := flatRaw (by decide)
def cfB (x y : PlB) : Int := x.1.c - y.1.c
theorem swoB : SWO (ltOf cfB) where
  irrefl x := by unfold ltOf cfB; simp
  trans x y z h1 h2 := by unfold ltOf cfB at *; simp only [decide_eq_true_iff] at *; omega
  ntrans x y z h1 h2 := by unfold ltOf cfB at *; simp only [decide_eq_false_iff_not] at *; omega
/-- 'place.behind': two boxes are laid. -/
theorem behindB (x y : PlB) (W : World) : Calls Try.prog 26 #[.agg (encB x).toArray, .agg (encB y).toArray] W fun en w' => en = .returned (.int .i64 (cfB x y)) ∧ w' = (W.alloc (.cells (encB x).toArray 57)).alloc (.cells (encB y).toArray 57) := by
  obtain ⟨⟨c, h, ks, g, cap, f2, f3, f4, f5, f6⟩, h0, h1⟩ := x
  obtain ⟨⟨c', h', ks', g', cap', f2', f3', f4', f5', f6'⟩, h0', h1'⟩ := y
  have g0 : 0 ≤ c := h0
  have g1 : c ≤ 1000000 := h1
  have g0' : 0 ≤ c' := h0'
  have g1' : c' ≤ 1000000 := h1'
  simp only [encB, encPl, cfB, Pl.e]
  clear h0 h1 h0' h1'
  have HW : Hid (wrap64 (c - c') = c - c') := Lib.hid (by unfold wrap64; omega)
  clear g0 g1 g0' g1'
  go_enter Try.func26, Try.ntmps26
  go_wp2_with fail
  rw [HW.out]
  go_ret
  exact ⟨rfl, rfl⟩
def srtP (ps : List Pl) : Prop := ps.Pairwise fun p q => p.c < q.c
theorem toB : ∀ ps : List Pl, (∀ p ∈ ps, 0 ≤ p.c ∧ p.c ≤ 1000000) → ∃ qs : List PlB, qs.map (·.1) = ps
  | [], _ => ⟨[], rfl⟩
  | p :: ps, h => by
    obtain ⟨qs, e⟩ := toB ps (fun q hq => h q (List.mem_cons_of_mem _ hq))
    exact ⟨⟨p, h p List.mem_cons_self⟩ :: qs, by rw [List.map_cons, e]⟩
theorem srtB_unique {d r : List Pl} (hp : d.Perm r) (hd : d.Pairwise fun a b => ¬ b.c < a.c) (hr : srtP r) : d = r :=
  List.Perm.eq_of_pairwise (le := fun a b => ¬ b.c < a.c) (fun a b ha hb h1 h2 => by
    have e : a.c = b.c := by omega
    have ha' := hp.mem_iff.1 ha
    have hb' := hb
    obtain ⟨i, hi, rfl⟩ := List.getElem_of_mem ha'
    obtain ⟨j, hj, rfl⟩ := List.getElem_of_mem hb'
    have hq := List.pairwise_iff_getElem.1 hr
    rcases Nat.lt_trichotomy i j with h | h | h
    · have := hq i j hi hj h; omega
    · subst h; rfl
    · have := hq j i hj hi h; omega) hd (hr.imp fun h => by omega) hp
/-- The sort. -/
theorem sortPl {w0 w : World} {g cap : Nat} {ys r : List Pl} {R : HP} (hp : r.Perm ys) (hr : srtP r) (hb : ∀ p ∈ ys, 0 ≤ p.c ∧ p.c ≤ 1000000) (hsz : ys.length < 4611686018427387904)
    (S0 : Sat w0 w (rPl (.slice (some ⟨g, 0, none⟩) ys.length cap) ys * R)) :
    Calls Try.prog 28 #[.slice (some ⟨g, 0, none⟩) ys.length cap, .func (.func 26) #[] #[]] w fun en w' => en = .returned (.tuple #[]) ∧
      Sat w0 w' (rPl (.slice (some ⟨g, 0, none⟩) r.length cap) r * R) := by
  obtain ⟨hs, hhs⟩ := toB ys hb
  have hfl : ∀ l : List PlB, l.flatMap encB = (l.map (·.1)).flatMap encPl := fun l => by rw [List.flatMap_map]
  have S : Sat w0 w (row 57 8 (.slice (some ⟨g, 0, none⟩) hs.length cap) hs.length (hs.flatMap encB) * R) := by
    have e : hs.length = ys.length := by rw [← hhs]; simp
    rw [hfl, hhs, e]; exact S0
  obtain ⟨d, hd⟩ : ∃ d : Array PlB, d = hs.toArray := ⟨_, rfl⟩
  have hdl : d.toList = hs := by rw [hd]
  have hds : hs.length = d.size := by rw [hd]; simp
  have hyl : ys.length = d.size := by rw [← hds, ← hhs]; simp
  rw [hds] at S
  rw [← hdl] at S
  have eg : ∀ args w, (callFunc 26 args).run Try.prog w = .ok (.enter 26 args) w := enters_of Try.func26 (by kernel_rfl) rfl
  have hcmp : CmpLays Try.prog 26 #[] encB 8 cfB g 0 d.size w := by
    intro m os dk hk x y
    refine (behindB x y _).mono ?_
    rintro e w' ⟨he, rfl⟩
    exact ⟨he, 0, _, by rw [alloc_eq_grow, alloc_eq_grow, grow_grow]; rfl⟩
  have hcon := AnyQ.slices_SortFunc Try.sortW 8 Try.isAgg57 Try.sizeOf57 encB (fun _ => rfl) (fun x v hv => encPl_one x.1 v hv) cfB swoB 26 #[] g 0 cap d w eg hcmp (Sat.row_holdsK flatB S) (by
    obtain ⟨_, h⟩ := S.row_open
    rcases h with ⟨h0, _⟩ | ⟨g2, cap2, cur, hv, _, _, _, _, S1⟩
    · cases h0
    · injection hv with hv; injection hv with hv; injection hv with hv
      subst hv; exact S1.lt) (by rw [← hyl]; exact hsz)
  change Calls Try.prog 28 _ _ _ at hcon
  rw [hyl]
  refine hcon.mono ?_
  rintro e w' ⟨he, d', m, os, hpi, hs', rfl⟩
  refine ⟨he, ?_⟩
  obtain ⟨p1, p2, p3⟩ := hpi
  rw [show d.extract 0 d.size = d from by simp, show d'.extract 0 d.size = d' from by rw [← p1]; simp] at p3
  rw [← p1] at hs'
  have ek : d'.toList.map (·.1) = r := srtB_unique (((p3.map (·.1)).trans (by rw [hdl, hhs])).trans hp.symm) (List.pairwise_map.2 (List.pairwise_iff_getElem.2 fun i j hi hj hij => by
    have hi' : i < d'.size := by simpa using hi
    have hj' : j < d'.size := by simpa using hj
    have := hs' i j (Nat.zero_le _) hij hj'
    rw [getElem!_pos d' i hi', getElem!_pos d' j hj'] at this
    unfold ltOf cfB at this
    rw [decide_eq_false_iff_not] at this
    rw [Array.getElem_toList, Array.getElem_toList]; omega)) hr
  have hrl : r.length = d'.size := by rw [← ek]; simp
  rw [← p1] at S
  have hw := Sat.row_worldK flatB S m os
  unfold rPl
  rw [hrl, ← ek, ← hfl]
  exact hw
set_option maxHeartbeats 4000000 in
/-- slices.SortedFunc(maps.Values(m), place.behind). -/
theorem sortedPl {w0 w : World} {bx b : Nat} {ps : List Pl} {R : HP} (hn : (ps.map (·.h)).Nodup) (hr : srtP ps) (hb : ∀ p ∈ ps, 0 ≤ p.c ∧ p.c ≤ 1000000) (hlen : ps.length ≤ 1000000) (S : Sat w0 w (boxM bx b * (gmap (Value.int .i64) b (byOf ps) * R))) :
    Calls Try.prog 24 #[.func (.func 29) #[] #[pt bx], .func (.func 26) #[] #[]] w fun en w' => ∃ v, en = .returned v ∧ Sat w0 w' (rPl v ps * (boxM bx b * (gmap (Value.int .i64) b (byOf ps) * R))) := by
  have HS := Lib.hid S
  have HN := Lib.hid hn
  have HL := Lib.hid hlen
  have HB := Lib.hid hb
  have HR := Lib.hid hr
  clear S hn hlen hb hr
  go_enter Try.func24, Try.ntmps24
  go_wp2_with fail
  refine (collectPl HN.out HL.out HS.out).mono ?_
  rintro en w1 ⟨v, ys, hp, rfl, S1⟩
  have hyl := hp.length_eq
  obtain ⟨hl, ho⟩ := S1.row_open
  rcases ho with ⟨rfl, h0, _, _⟩ | ⟨g, cap, cur, rfl, _⟩
  · have hps : ps = [] := List.eq_nil_of_length_eq_zero (by omega)
    have hys : ys = [] := List.eq_nil_of_length_eq_zero h0
    subst hps hys
    have HS1 := Lib.hid S1
    clear S1 hp HS hyl hl h0
    go_wp2_with fail
    refine (AnyF.slices_SortFunc_none Try.sortW none 0 _ w1).mono ?_
    rintro en w2 ⟨rfl, rfl⟩
    go_wp2_with fail
    go_ret
    exact ⟨_, rfl, HS1.out⟩
  · have HS1 := Lib.hid S1
    have HP := Lib.hid hp
    have HY := Lib.hid hyl
    clear S1 hp HS hyl hl
    go_wp2_with fail
    refine (sortPl HP.out.symm HR.out (fun p hp => HB.out p (HP.out.mem_iff.1 hp)) (by have := HL.out; have := HY.out; omega) HS1.out).mono ?_
    rintro en w2 ⟨rfl, S2⟩
    rw [← HY.out] at S2
    have HS2 := Lib.hid S2
    clear S2 HS1
    go_wp2_with fail
    go_ret
    exact ⟨_, rfl, HS2.out⟩
abbrev encV1 (p : Pl) : Array Value := #[p.v]
theorem WOk.srt {ps : List Pl} {n : Int} (ho : WOk ps n) : srtP ps := ho.cs
theorem WOk.bnd {ps : List Pl} {n : Int} (ho : WOk ps n) : ∀ p ∈ ps, 0 ≤ p.c ∧ p.c ≤ 1000000 := fun p hp => by
  have := ho.pos p hp
  have := ho.n1
  omega
theorem srtP_len : ∀ {ps : List Pl} {m : Int}, srtP ps → (∀ p ∈ ps, 0 < p.c ∧ p.c ≤ m) → 0 ≤ m → (ps.length : Int) ≤ m
  | [], m, _, _, h0 => by simpa using h0
  | p :: ps, m, h, hb, h0 => by
    have hp := List.pairwise_cons.1 h
    -- all behind p come later: turn them down by p.c
    have key : ∀ (qs : List Pl) (c : Int), srtP qs → (∀ q ∈ qs, c < q.c ∧ q.c ≤ m) → c ≤ m → (qs.length : Int) ≤ m - c := by
      intro qs
      induction qs with
      | nil => intro c _ _ hc; simp; omega
      | cons q qs ih =>
        intro c hs hb hc
        have hq := List.pairwise_cons.1 hs
        have h1 := hb q List.mem_cons_self
        have := ih q.c hq.2 (fun x hx => ⟨hq.1 x hx, (hb x (List.mem_cons_of_mem _ hx)).2⟩) h1.2
        simp only [List.length_cons]; omega
    have := key (p :: ps) 0 h hb h0
    omega
theorem WOk.len {ps : List Pl} {n : Int} (ho : WOk ps n) : ps.length ≤ 1000000 := by
  have := srtP_len (m := n) ho.cs (fun p hp => ⟨(ho.pos p hp).1, (ho.pos p hp).2.1⟩) ho.n0
  have := ho.n1
  omega
def kPl : Kd Pl := Kd.raw encPl 8 (fun _ => rfl) encPl_one
theorem flatPl : Flat kPl encPl := flatRaw (by decide)
theorem rPl_at {w0 w : World} {A : Option Addr} {m c i : Nat} {ps : List Pl} {R : HP} (S : Sat w0 w (rPl (.slice A m c) ps * R)) (h : i < ps.length) : ∃ g, A = some ⟨g, 0, none⟩ ∧
    w.cell? ⟨g, i * 8, none⟩ = some (.int .i64 ps[i].h) ∧ w.cell? ⟨g, i * 8 + 1, none⟩ = some ps[i].e ∧ w.cell? ⟨g, i * 8 + 2, none⟩ = some (.bool ps[i].f2) ∧ w.cell? ⟨g, i * 8 + 3, none⟩ = some (.bool ps[i].f3) ∧
    w.cell? ⟨g, i * 8 + 4, none⟩ = some (.string ps[i].f4) ∧ w.cell? ⟨g, i * 8 + 5, none⟩ = some (.bool ps[i].f5) ∧ w.cell? ⟨g, i * 8 + 6, none⟩ = some (.int .i64 ps[i].f6) ∧ w.cell? ⟨g, i * 8 + 7, none⟩ = some (.int .i64 ps[i].c) := by
  have key : ∀ (k : Nat) (u : Value), (encPl ps[i])[k]? = some u → ∃ g, A = some ⟨g, 0, none⟩ ∧ w.cell? ⟨g, i * 8 + k, none⟩ = some u := fun k u hu =>
    S.row_cells (i * 8 + k) u (flat_cell flatPl (List.getElem?_eq_getElem h) hu)
  obtain ⟨g, e0, h0⟩ := key 0 _ rfl
  refine ⟨g, e0, h0, ?_, ?_, ?_, ?_, ?_, ?_, ?_⟩
  all_goals
    first
    | (obtain ⟨g', e, h⟩ := key 1 _ rfl; rw [e0] at e; injection e with e; injection e with e; subst e; exact h)
    | (obtain ⟨g', e, h⟩ := key 2 _ rfl; rw [e0] at e; injection e with e; injection e with e; subst e; exact h)
    | (obtain ⟨g', e, h⟩ := key 3 _ rfl; rw [e0] at e; injection e with e; injection e with e; subst e; exact h)
    | (obtain ⟨g', e, h⟩ := key 4 _ rfl; rw [e0] at e; injection e with e; injection e with e; subst e; exact h)
    | (obtain ⟨g', e, h⟩ := key 5 _ rfl; rw [e0] at e; injection e with e; injection e with e; subst e; exact h)
    | (obtain ⟨g', e, h⟩ := key 6 _ rfl; rw [e0] at e; injection e with e; injection e with e; subst e; exact h)
    | (obtain ⟨g', e, h⟩ := key 7 _ rfl; rw [e0] at e; injection e with e; injection e with e; subst e; exact h)
set_option maxHeartbeats 4000000 in
/-- 'ordered' hands all, in the order in which they came; the row may be turned in the rounds. -/
theorem orderedIter {r : Nat} {ps : List Pl} {n : Int} (hok : WOk ps n) :
    IterG Try.prog 21 #[pt r] #[] encV (fun pre => pre <+: ps) (fun ys => ys = ps) (wt r ps n) (wt r ps n) emp := by
  intro lp w0 w I Ix J hI hY S
  show CallsIn WF 0 Try.prog 21 #[pt r, .func (.yield lp) #[] #[]] w _
  obtain ⟨b, kb, _, S1⟩ := S.wt_open
  obtain ⟨x0, x1, x2, xf⟩ := blk3 S1.blk
  have hrlt := S1.lt
  obtain ⟨bx, hbx⟩ : ∃ bx, bx = w.heap.size := ⟨_, rfl⟩
  have S2 := S1.alloc (.cells #[.map (some b)] 51)
  rw [← hbx] at S2
  have HS2 : Hid (Sat w0 _ (boxM bx b * (gmap (Value.int .i64) b (byOf ps) * (pts r (.cells #[.map (some b), .map (some kb), .int .i64 n] 54 (0, 0)) * (mmap kb (keyOf ps) * (star (ps.map Pl.row) * J)))))) := Lib.hid (S2.cong (by simp only [boxM]; ac_rfl))
  have HY := Lib.hid hY
  have HOK := Lib.hid hok
  have HI := Lib.hid hI
  have HBX := Lib.hid hbx
  have HL := Lib.hid hok.len
  clear S S1 S2 hY hok hI hbx
  gi_enter Try.func21, Try.ntmps21
  gi_wp2_with (first
    | (gi_at_call 25; refine (callsIn_wide.2 (valsCall _ _)).mono ?_; rintro en wq ⟨rfl, rfl⟩)
    | (gi_at_call 24; rw [← HBX.out]; refine (callsIn_wide.2 (sortedPl HOK.out.hs HOK.out.srt HOK.out.bnd HL.out HS2.out)).mono ?_; rintro en wq ⟨v, rfl, S3⟩; obtain ⟨A, c, rfl, hc, -⟩ := Sat.row_C flatPl rfl S3))
  have S4 := Sat.wt_shut (r := r) (b := b) (kb := kb) (ps := ps) (n := n) (R := boxM bx b * (rPl (.slice A ps.length c) ps * J)) HOK.out (S3.cong (by ac_rfl))
  have HS4 : Hid (Sat w0 wq (rPl (.slice A ps.length c) ps * I (ps.take 0))) := Lib.hid (S4.p2.drop1.cong (by rw [List.take_zero, HI.out]; ac_rfl))
  clear S3 S4 HS2 hc HI HBX x0 x1 x2 xf hrlt
  gi_loopg [17] ps.length (fun kq v17 wr => ∃ i : Nat, v17 = .int .i64 i ∧ i ≤ ps.length ∧ Hid (kq = ps.length - i) ∧ Hid (Sat w0 wr (rPl (.slice A ps.length c) ps * I (ps.take i))))
  case atStart => exact ⟨0, rfl, by omega, Lib.hid (by omega), HS4⟩
  case round =>
    clear HS4
    obtain ⟨i, rfl, hi, HK, HSr⟩ := hrel
    by_cases hlt : i < ps.length
    · obtain ⟨g, e1, a0, a1, a2, a3, a4, a5, a6, a7⟩ := rPl_at HSr.out hlt
      subst e1
      have hpx : ps.take i ++ [ps[i]] <+: ps := by rw [List.take_append_getElem hlt]; exact List.take_prefix _ _
      have htk : ps.take i ++ [ps[i]] = ps.take (i + 1) := List.take_append_getElem hlt
      have S6 := (HSr.out.alloc (.cells #[.int .i64 ps[i].h, ps[i].e, .bool ps[i].f2, .bool ps[i].f3, .string ps[i].f4, .bool ps[i].f5, .int .i64 ps[i].f6, .int .i64 ps[i].c] 57)).drop1
      obtain ⟨fn, tm, as_, bd, hy, hR⟩ := HY.out _ _ ps[i] _ hpx S6
      rw [htk] at hR
      have hv : encV ps[i] = #[.agg #[.int .i64 ps[i].h, ps[i].e, .bool ps[i].f2, .bool ps[i].f3, .string ps[i].f4, .bool ps[i].f5, .int .i64 ps[i].f6, .int .i64 ps[i].c]] := rfl
      rw [hv] at hy
      have HPX := Lib.hid hpx
      have HTK := Lib.hid htk
      generalize ps[i] = p at *
      clear S6 hpx htk hv HSr
      gi_wp2_with fail
      refine hR.mono ?_
      clear hy hR a0 a1 a2 a3 a4 a5 a6 a7
      rintro en W3 (⟨rfl, S3⟩ | ⟨rfl, S3⟩)
      · have HS3 := Lib.hid S3
        clear S3
        gi_wp2_with fail
        gi_roundg (ps.length - (i + 1))
        case measure => have := HK.out; omega
        case rel => exact ⟨i + 1, by rw [show wrap64 ((i : Int) + 1) = ((i + 1 : Nat) : Int) from by have := HL.out; unfold wrap64; omega], by omega, Lib.hid rfl, HS3⟩
      · have HS3 := Lib.hid S3
        clear S3
        gi_wp2_with fail
        refine bodyPost_ret (results_none rfl _ _ _) rfl ?_
        exact ⟨⟨_, rfl⟩, .inr ⟨ps.take (i + 1), List.take_prefix _ _, by rw [emp_mul]; exact HS3.out.drop1⟩⟩
    · have hi2 : i = ps.length := by omega
      subst hi2
      gi_wp2_with fail
      refine bodyPost_end (results_none rfl _ _ _) rfl ?_
      exact ⟨⟨_, rfl⟩, .inl ⟨ps, rfl, by have := HSr.out.drop1; rw [List.take_length] at this; rw [emp_mul]; exact this⟩⟩
end Go.Sl
