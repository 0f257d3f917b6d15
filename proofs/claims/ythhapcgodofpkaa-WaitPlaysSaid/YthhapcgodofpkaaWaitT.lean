/-
  The contracts of package wait's functions All, Due.
-/
import Derived.Test.YthhapcgodofpkaaWaitS
import Derived.Stop.RegionWithIn
namespace Go.Sl
open Go.RowKit Go.Shelf Go.Proofs Go.Proofs.YthhapcgodofpkaaW.PrintWords Go.Sort
attribute [local go_sem] Oper.semAt_some
set_option linter.unusedVariables false
set_option linter.unusedSimpArgs false
set_option maxRecDepth 100000

/-- A waiter, as its cells say: its keys lie wherever they lie. -/
structure Wr where
  h : Int
  ks : List ByteArray
  A : Option Addr
  cap : Nat
  f2 : Bool
  f3 : Bool
  f4 : ByteArray
  f5 : Bool
  f6 : Int
def Wr.ce (x : Wr) : List Value := [.int .i64 x.h, .slice x.A x.ks.length x.cap, .bool x.f2, .bool x.f3, .string x.f4, .bool x.f5, .int .i64 x.f6]
def Pl.wr (p : Pl) : Wr := ⟨p.h, p.ks, some ⟨p.g, 0, none⟩, p.cap, p.f2, p.f3, p.f4, p.f5, p.f6⟩
/-- What it says, wherever its keys lie. -/
abbrev WrCo := Int × List ByteArray × Bool × Bool × ByteArray × Bool × Int
def Wr.co (x : Wr) : WrCo := (x.h, x.ks, x.f2, x.f3, x.f4, x.f5, x.f6)
theorem Wr.ce_one (x : Wr) : ∀ u ∈ x.ce, u.oneCell' = true := fun u hu => by
  simp only [Wr.ce, List.mem_cons, List.not_mem_nil, or_false] at hu
  rcases hu with rfl | rfl | rfl | rfl | rfl | rfl | rfl <;> rfl
def kWr : Kd Wr := Kd.raw Wr.ce 7 (fun _ => rfl) Wr.ce_one
theorem flatWr : Flat kWr Wr.ce := flatRaw (by decide)
abbrev rW (v : Value) (xs : List Wr) : HP := row 30 7 v xs.length (xs.flatMap Wr.ce)
theorem waInfo : (Try.prog.info? 30).map (fun i => (i.zero, i.size, i.bytes)) = some (some (.agg #[.int .i64 0, .slice none 0 0, .bool false, .bool false, .string ⟨#[]⟩, .bool false, .int .i64 0]), 7, 72) := by kernel_rfl
/-- 'append(v, x)', x in an array of its own. -/
theorem rW_app {w0 w : World} {v : Value} {xs : List Wr} {x : Wr} {b : Nat} {R : HP} (hl : xs.length < 1000000) (S : Sat w0 w (rW v xs * (pts b (.cells x.ce.toArray 30 (0, 0)) * R))) :
    ∃ g c w', (Builtin.append_ #[27, 27] 27 #[v, .slice (some ⟨b, 0, none⟩) 1 1]).run Try.prog w = .ok (.slice (some ⟨g, 0, none⟩) (xs.length + 1) c) w' ∧ Sat w0 w' (rW (.slice (some ⟨g, 0, none⟩) (xs.length + 1) c) (xs ++ [x]) * (pts b (.cells x.ce.toArray 30 (0, 0)) * R)) := by
  obtain ⟨v', w', hr, S'⟩ := S.run_append 27 27 Try.underlying27 waInfo rfl (by decide) ⟨b, 0, none⟩ 1 1 x.ce rfl (blk_news S.p2.blk (by simp)) (Wr.ce_one x) (by unfold maxLen; omega) (by omega)
  obtain ⟨g, c, rfl⟩ := row_succ S'
  exact ⟨g, c, w', hr, S'.cong (by simp only [rW, List.length_append, List.flatMap_append, List.flatMap_cons, List.flatMap_nil, List.append_nil, List.length_cons, List.length_nil, Nat.zero_add])⟩
/-- The keys of one that waits, read. -/
theorem Sat.wt_keys {w0 w : World} {r : Nat} {ps : List Pl} {n : Int} {R : HP} {p : Pl} (hp : p ∈ ps) (S : Sat w0 w (wt r ps n * R)) : Kd.C Kd.string w (some ⟨p.g, 0, none⟩) p.ks.length p.ks := by
  obtain ⟨b, kb, hok, S1⟩ := S.wt_open
  have S2 := S1.p4
  rw [star_perm ((dropH_perm hok hp).map Pl.row), List.map_cons, star_cons, sep_assoc] at S2
  exact Sat.row_at rfl S2
/-- append, its run being known, as one step of a region that draws, inside a fence. -/
theorem stepIn_append_eq {F : Fence} {n : Nat} {P : Program} {ops : Array Oper} {o : Oper} {a : Act} {w w' : World} {K : Act → World → Prop} {Q : Exit → Act → World → Prop} {E : Prop}
    (hg : o.guard = none) (s x : Operand) (t u : TypeId) (hop : o.op = .call { callee := .builtin .append, args := #[s, x], argTypes := #[t, u] }) {v y v' : Value} (hs : a.eval s = v) (hx : a.eval x = y)
    (hr : (Builtin.append_ #[t, u] o.type #[v, y]).run P w = .ok v' w') (hK : K (a.put o.dst v') w') : if Region.wanted o (yielded ops a.tmps) = true then Oper.wpIn F n P o a w K Q else E := by
  have hw : Region.wanted o (yielded ops a.tmps) = true := by simp [Region.wanted, hg]
  rw [if_pos hw]
  unfold Oper.wpIn
  refine ⟨by simp [Oper.about, hop, resolve, Target.leads, Sem.run_pure], ?_⟩
  rw [Oper.semAt_plain F _ _ (by rw [hop]; intro c hc'; cases hc')]
  simp [execOp, hop, resolve, invoke, builtin, hs, hx, hr, Result.andThen]
  exact hK
set_option maxHeartbeats 8000000 in
/-- 'All'. -/
theorem wtAll {w0 w : World} {r : Nat} {ps : List Pl} {n : Int} {R : HP} (S1 : Sat w0 w (wt r ps n * R)) :
    Calls Try.prog 16 #[pt r] w fun en w' => ∃ (v : Value) (qs : List Pl), qs.map (fun q => q.wr.co) = ps.map (fun q => q.wr.co) ∧ en = .returned v ∧ Sat w0 w' (rW v (qs.map Pl.wr) * (star (qs.map Pl.row) * (wt r ps n * R))) := by
  obtain ⟨k0, hk0⟩ : ∃ k0, k0 = w.heap.size := ⟨_, rfl⟩
  obtain ⟨_, _, hok, _⟩ := S1.wt_open
  have S2 := (S1.alloc (.cells #[.slice none 0 0] 27))
  rw [← hk0] at S2
  have HS2 := Lib.hid S2.p2
  have HOK := Lib.hid hok
  have HK0 := Lib.hid hk0
  clear S1 S2 hk0 hok
  refine (callsIn_wide (n := 0)).1 ?_
  refine callsIn_of_wp_marks Try.func16 rfl trivial ?_
  simp only [Try.ntmps16, List.size_toArray, List.length_cons, List.length_nil, Nat.reduceAdd, Nat.reduceSub, Array.replicate_succ, Array.replicate_zero, List.push_toArray, List.append_toArray, List.nil_append, List.cons_append]
  gi_wp2_with fail
  rw [← HK0.out]
  refine wpIn_rangeFunc_g (w0 := w0) (gf := 21) (la := #[pt r]) (lb := #[]) rfl (enters_of Try.func21 (by kernel_rfl) rfl) (orderedIter HOK.out) (fun _ => rfl)
    (fun pre => wt r ps n * (ex fun q : Value × List Pl => wh (q.2.map (fun q => q.wr.co) = pre.map (fun q => q.wr.co)) (pts k0 (.cells #[q.1] 27) * (rW q.1 (q.2.map Pl.wr) * (star (q.2.map Pl.row) * R)))))
    (fun c pre => wh False emp) (ex fun q : Value × List Pl => wh (q.2.map (fun q => q.wr.co) = ([] : List Pl).map (fun q => q.wr.co)) (pts k0 (.cells #[q.1] 27) * (rW q.1 (q.2.map Pl.wr) * (star (q.2.map Pl.row) * R))))
    ?start rfl ?round ?done ?stop
  case start =>
    rw [mul_ex]
    refine Sat.mk_ex (.slice none 0 0, []) ?_
    rw [mul_wh]
    refine Sat.mk_wh rfl ?_
    have := Sat.row_nil HS2.out 30 7
    exact this.cong (by simp only [List.map_nil, List.length_nil, List.flatMap_nil, rW, star_nil, emp_mul]; ac_rfl)
  case round =>
    clear HS2
    intro lp Hd pre x W R1 hp Sa
    have hx : x ∈ ps := hp.subset (by simp)
    have hpl : pre.length < 1000000 := by
      have := hp.length_le
      have := HOK.out.len
      simp at *
      omega
    dsimp only at Sa
    rw [sep_assoc] at Sa
    obtain ⟨⟨v, qs⟩, Sb⟩ := Sa.p3.ex1
    obtain ⟨hco, Sc⟩ := Sb.wh1
    simp only at hco Sc
    have hql : (qs.map Pl.wr).length < 1000000 := by
      have := congrArg List.length hco
      simp only [List.length_map] at this ⊢
      omega
    have HX := Lib.hid hx
    have HCO := Lib.hid hco
    have HQL := Lib.hid hql
    have HPL := Lib.hid hpl
    obtain ⟨nb, hnb⟩ : ∃ nb, nb = W.heap.size := ⟨_, rfl⟩
    have S3 := Sc.alloc (.cells #[.int .i64 x.h, x.e, .bool x.f2, .bool x.f3, .string x.f4, .bool x.f5, .int .i64 x.f6, .int .i64 x.c] 57)
    rw [← hnb] at S3
    have HS3 := Lib.hid S3
    have HNB := Lib.hid hnb
    clear Sa Sb Sc hco hql hpl S3 hnb hp hx
    have hv : encV x = #[.agg #[.int .i64 x.h, x.e, .bool x.f2, .bool x.f3, .string x.f4, .bool x.f5, .int .i64 x.f6, .int .i64 x.c]] := rfl
    rw [hv]
    clear hv
    gi_wp2_with fail
    rw [← HNB.out]
    refine ⟨pts nb (.cells #[.int .i64 x.h, x.e, .bool x.f2, .bool x.f3, .string x.f4, .bool x.f5, .int .i64 x.f6, .int .i64 x.c] 57) * (pts k0 (.cells #[v] 27) * (rW v (qs.map Pl.wr) * (star (qs.map Pl.row) * (wt r ps n * (Hd * R))))), HS3.out.cong (by ac_rfl), ?_⟩
    clear HS3 HNB W
    intro W lr R2 S
    have S1 : Sat w0 W.drew (wt r ps n * (pts nb (.cells #[.int .i64 x.h, x.e, .bool x.f2, .bool x.f3, .string x.f4, .bool x.f5, .int .i64 x.f6, .int .i64 x.c] 57) * (pts k0 (.cells #[v] 27) * (rW v (qs.map Pl.wr) * (star (qs.map Pl.row) * (R * (Hd * (pts lp (.loop lr) * R2)))))))) := S.drew.cong (by ac_rfl)
    have HC : Hid (Kd.C Kd.string W.drew (some ⟨x.g, 0, none⟩) x.ks.length x.ks) := Lib.hid (S1.wt_keys HX.out)
    have hks := HOK.out.pos x HX.out
    have hk0 : 0 < x.ks.length := List.length_pos_iff.2 hks.2.2.1
    have hk1 := hks.2.2.2
    obtain ⟨c0, f0⟩ := blk1 S1.p3.blk
    obtain ⟨a0, a1, a2, a3, a4, a5, a6, a7, af⟩ := blk8 S1.p2.blk
    have HS1 := Lib.hid S1
    clear S S1 hks
    gi_wp2_with fail
    refine wpIn_region_any (by kernel_rfl) ?_
    try (change wpAnyIn _ _ _ _ _ _ _ _ _ (World.drew _))
    refine wpAnyIn_ready (rs := [0, 1]) (by kernel_rfl) (by simp) ?_
    refine AllReadyIn.cons rfl (fun K hK => ?_) ?_
    · go_simp
      refine hK _ _ ?_
      clear hK K
      try simp only [Act.put, List.setIfInBounds_toArray, List.set_cons_zero, List.set_cons_succ]
      refine wpAnyIn_ready (rs := [1]) (by kernel_rfl) (by simp) ?_
      refine AllReadyIn.cons rfl (fun K hK => ?_) AllReadyIn.nil
      go_simp
      refine hK _ _ ?_
      clear hK K
      try simp only [Act.put, List.setIfInBounds_toArray, List.set_cons_zero, List.set_cons_succ]
      refine wpAnyIn_ready (rs := [2]) (by kernel_rfl) (by simp) ?_
      refine AllReadyIn.cons rfl (fun K hK => ?_) AllReadyIn.nil
      go_simp
      refine hK _ _ ?_
      clear hK K
      try simp only [Act.put, List.setIfInBounds_toArray, List.set_cons_zero, List.set_cons_succ]
      refine wpAnyIn_ready (rs := [3]) (by kernel_rfl) (by simp) ?_
      refine AllReadyIn.cons rfl (fun K hK => ?_) AllReadyIn.nil
      go_simp
      gi_wp2_with (gi_at_call 20; refine (callsIn_wide.2 (own_calls hk0 hk1 HC.out HS1.out)).mono ?_; rintro en w9 ⟨g, cap, rfl, S9⟩)
      obtain ⟨q, hq⟩ : ∃ q : Pl, q = { x with g := g, cap := cap } := ⟨_, rfl⟩
      obtain ⟨ab, hab⟩ : ∃ ab, ab = w9.heap.size := ⟨_, rfl⟩
      have S10 := S9.alloc (.cells #[.int .i64 x.h, .slice (some ⟨g, 0, none⟩) x.ks.length cap, .bool x.f2, .bool x.f3, .string x.f4, .bool x.f5, .int .i64 x.f6] 30)
      rw [← hab] at S10
      obtain ⟨d0, df0⟩ := blk1 S9.p4.blk
      obtain ⟨e0, ef0⟩ := blk1 S10.p5.blk
      have hklt := S9.p4.lt
      have S10b : Sat w0 _ (rW v (qs.map Pl.wr) * (pts ab (.cells q.wr.ce.toArray 30 (0, 0)) * (row 9 1 (.slice (some ⟨g, 0, none⟩) x.ks.length cap) x.ks.length (x.ks.map Value.string) * (wt r ps n * (pts nb (.cells #[.int .i64 x.h, x.e, .bool x.f2, .bool x.f3, .string x.f4, .bool x.f5, .int .i64 x.f6, .int .i64 x.c] 57) * (pts k0 (.cells #[v] 27) * (star (qs.map Pl.row) * (R * (Hd * (pts lp (.loop lr) * (R2))))))))))) := S10.cong (by rw [hq]; simp only [Pl.wr, Wr.ce]; ac_rfl)
      obtain ⟨g2, c2, w11, hr, S11⟩ := rW_app (x := q.wr) (b := ab) HQL.out S10b
      obtain ⟨h0, hf0⟩ := blk1 S11.p6.blk
      have HS11 := Lib.hid S11
      have HQ := Lib.hid hq
      have HAB := Lib.hid hab
      rw [hab] at hr
      clear S9 S10 S10b S11 hq hab
      try simp only [Act.put, List.setIfInBounds_toArray, List.set_cons_zero, List.set_cons_succ]
      refine wpAnyIn_ready (rs := [4]) (by kernel_rfl) (by simp) ?_
      refine AllReadyIn.cons rfl (fun K hK => ?_) AllReadyIn.nil
      go_simp
      refine hK _ _ ?_
      clear hK K
      try simp only [Act.put, List.setIfInBounds_toArray, List.set_cons_zero, List.set_cons_succ]
      refine wpAnyIn_ready (rs := [5]) (by kernel_rfl) (by simp) ?_
      refine AllReadyIn.cons rfl (fun K hK => ?_) AllReadyIn.nil
      refine stepIn_append_eq (by rfl) _ _ _ _ (by rfl) (by rfl) (by rfl) hr ?_
      refine hK _ _ ?_
      clear hK K
      try simp only [Act.put, List.setIfInBounds_toArray, List.set_cons_zero, List.set_cons_succ]
      refine wpAnyIn_ready (rs := [6]) (by kernel_rfl) (by simp) ?_
      refine AllReadyIn.cons rfl (fun K hK => ?_) AllReadyIn.nil
      go_simp
      refine hK _ _ ?_
      clear hK K
      try simp only [Act.put, List.setIfInBounds_toArray, List.set_cons_zero, List.set_cons_succ]
      refine wpAnyIn_done (by kernel_rfl) ?_ _
      have S11 := HS11.out
      rw [show (qs.map Pl.wr).length = qs.length from List.length_map _] at S11
      have S12 := S11.p6.setCell (i := 0) (.slice (some ⟨g2, 0, none⟩) (qs.length + 1) c2)
      have S13 := S12.p3.drop1.p5.drop1
      have hrow : q.row = row 9 1 (.slice (some ⟨g, 0, none⟩) x.ks.length cap) x.ks.length (x.ks.map Value.string) := by rw [HQ.out]; rfl
      have hco : (qs ++ [q]).map (fun q => q.wr.co) = (pre ++ [x]).map (fun q => q.wr.co) := by rw [List.map_append, List.map_append, HCO.out, List.map_cons, List.map_cons, HQ.out]; rfl
      show Sat w0 _ (Hd * ((wt r ps n * ex fun q : Value × List Pl => wh (q.2.map (fun q => q.wr.co) = (pre ++ [x]).map (fun q => q.wr.co)) (pts k0 (.cells #[q.1] 27) * (rW q.1 (q.2.map Pl.wr) * (star (q.2.map Pl.row) * R)))) * _))
      rw [mul_ex, ex_mul, mul_ex]
      refine Sat.mk_ex (.slice (some ⟨g2, 0, none⟩) (qs.length + 1) c2, qs ++ [q]) ?_
      rw [mul_wh, wh_mul, mul_wh]
      refine Sat.mk_wh hco (S13.cong ?_)
      simp only [List.map_append, List.map_cons, List.map_nil, star_append, star_cons, star_nil, mul_emp, hrow]
      ac_rfl
    refine AllReadyIn.cons rfl (fun K hK => ?_) AllReadyIn.nil
    go_simp
    refine hK _ _ ?_
    clear hK K
    try simp only [Act.put, List.setIfInBounds_toArray, List.set_cons_zero, List.set_cons_succ]
    refine wpAnyIn_ready (rs := [0, 2]) (by kernel_rfl) (by simp) ?_
    refine AllReadyIn.cons rfl (fun K hK => ?_) ?_
    · go_simp
      refine hK _ _ ?_
      clear hK K
      try simp only [Act.put, List.setIfInBounds_toArray, List.set_cons_zero, List.set_cons_succ]
      refine wpAnyIn_ready (rs := [2]) (by kernel_rfl) (by simp) ?_
      refine AllReadyIn.cons rfl (fun K hK => ?_) AllReadyIn.nil
      go_simp
      refine hK _ _ ?_
      clear hK K
      try simp only [Act.put, List.setIfInBounds_toArray, List.set_cons_zero, List.set_cons_succ]
      refine wpAnyIn_ready (rs := [3]) (by kernel_rfl) (by simp) ?_
      refine AllReadyIn.cons rfl (fun K hK => ?_) AllReadyIn.nil
      go_simp
      gi_wp2_with (gi_at_call 20; refine (callsIn_wide.2 (own_calls hk0 hk1 HC.out HS1.out)).mono ?_; rintro en w9 ⟨g, cap, rfl, S9⟩)
      obtain ⟨q, hq⟩ : ∃ q : Pl, q = { x with g := g, cap := cap } := ⟨_, rfl⟩
      obtain ⟨ab, hab⟩ : ∃ ab, ab = w9.heap.size := ⟨_, rfl⟩
      have S10 := S9.alloc (.cells #[.int .i64 x.h, .slice (some ⟨g, 0, none⟩) x.ks.length cap, .bool x.f2, .bool x.f3, .string x.f4, .bool x.f5, .int .i64 x.f6] 30)
      rw [← hab] at S10
      obtain ⟨d0, df0⟩ := blk1 S9.p4.blk
      obtain ⟨e0, ef0⟩ := blk1 S10.p5.blk
      have hklt := S9.p4.lt
      have S10b : Sat w0 _ (rW v (qs.map Pl.wr) * (pts ab (.cells q.wr.ce.toArray 30 (0, 0)) * (row 9 1 (.slice (some ⟨g, 0, none⟩) x.ks.length cap) x.ks.length (x.ks.map Value.string) * (wt r ps n * (pts nb (.cells #[.int .i64 x.h, x.e, .bool x.f2, .bool x.f3, .string x.f4, .bool x.f5, .int .i64 x.f6, .int .i64 x.c] 57) * (pts k0 (.cells #[v] 27) * (star (qs.map Pl.row) * (R * (Hd * (pts lp (.loop lr) * (R2))))))))))) := S10.cong (by rw [hq]; simp only [Pl.wr, Wr.ce]; ac_rfl)
      obtain ⟨g2, c2, w11, hr, S11⟩ := rW_app (x := q.wr) (b := ab) HQL.out S10b
      obtain ⟨h0, hf0⟩ := blk1 S11.p6.blk
      have HS11 := Lib.hid S11
      have HQ := Lib.hid hq
      have HAB := Lib.hid hab
      rw [hab] at hr
      clear S9 S10 S10b S11 hq hab
      try simp only [Act.put, List.setIfInBounds_toArray, List.set_cons_zero, List.set_cons_succ]
      refine wpAnyIn_ready (rs := [4]) (by kernel_rfl) (by simp) ?_
      refine AllReadyIn.cons rfl (fun K hK => ?_) AllReadyIn.nil
      go_simp
      refine hK _ _ ?_
      clear hK K
      try simp only [Act.put, List.setIfInBounds_toArray, List.set_cons_zero, List.set_cons_succ]
      refine wpAnyIn_ready (rs := [5]) (by kernel_rfl) (by simp) ?_
      refine AllReadyIn.cons rfl (fun K hK => ?_) AllReadyIn.nil
      refine stepIn_append_eq (by rfl) _ _ _ _ (by rfl) (by rfl) (by rfl) hr ?_
      refine hK _ _ ?_
      clear hK K
      try simp only [Act.put, List.setIfInBounds_toArray, List.set_cons_zero, List.set_cons_succ]
      refine wpAnyIn_ready (rs := [6]) (by kernel_rfl) (by simp) ?_
      refine AllReadyIn.cons rfl (fun K hK => ?_) AllReadyIn.nil
      go_simp
      refine hK _ _ ?_
      clear hK K
      try simp only [Act.put, List.setIfInBounds_toArray, List.set_cons_zero, List.set_cons_succ]
      refine wpAnyIn_done (by kernel_rfl) ?_ _
      have S11 := HS11.out
      rw [show (qs.map Pl.wr).length = qs.length from List.length_map _] at S11
      have S12 := S11.p6.setCell (i := 0) (.slice (some ⟨g2, 0, none⟩) (qs.length + 1) c2)
      have S13 := S12.p3.drop1.p5.drop1
      have hrow : q.row = row 9 1 (.slice (some ⟨g, 0, none⟩) x.ks.length cap) x.ks.length (x.ks.map Value.string) := by rw [HQ.out]; rfl
      have hco : (qs ++ [q]).map (fun q => q.wr.co) = (pre ++ [x]).map (fun q => q.wr.co) := by rw [List.map_append, List.map_append, HCO.out, List.map_cons, List.map_cons, HQ.out]; rfl
      show Sat w0 _ (Hd * ((wt r ps n * ex fun q : Value × List Pl => wh (q.2.map (fun q => q.wr.co) = (pre ++ [x]).map (fun q => q.wr.co)) (pts k0 (.cells #[q.1] 27) * (rW q.1 (q.2.map Pl.wr) * (star (q.2.map Pl.row) * R)))) * _))
      rw [mul_ex, ex_mul, mul_ex]
      refine Sat.mk_ex (.slice (some ⟨g2, 0, none⟩) (qs.length + 1) c2, qs ++ [q]) ?_
      rw [mul_wh, wh_mul, mul_wh]
      refine Sat.mk_wh hco (S13.cong ?_)
      simp only [List.map_append, List.map_cons, List.map_nil, star_append, star_cons, star_nil, mul_emp, hrow]
      ac_rfl
    refine AllReadyIn.cons rfl (fun K hK => ?_) AllReadyIn.nil
    go_simp
    refine hK _ _ ?_
    clear hK K
    try simp only [Act.put, List.setIfInBounds_toArray, List.set_cons_zero, List.set_cons_succ]
    refine wpAnyIn_ready (rs := [0, 3]) (by kernel_rfl) (by simp) ?_
    refine AllReadyIn.cons rfl (fun K hK => ?_) ?_
    · go_simp
      refine hK _ _ ?_
      clear hK K
      try simp only [Act.put, List.setIfInBounds_toArray, List.set_cons_zero, List.set_cons_succ]
      refine wpAnyIn_ready (rs := [3]) (by kernel_rfl) (by simp) ?_
      refine AllReadyIn.cons rfl (fun K hK => ?_) AllReadyIn.nil
      go_simp
      gi_wp2_with (gi_at_call 20; refine (callsIn_wide.2 (own_calls hk0 hk1 HC.out HS1.out)).mono ?_; rintro en w9 ⟨g, cap, rfl, S9⟩)
      obtain ⟨q, hq⟩ : ∃ q : Pl, q = { x with g := g, cap := cap } := ⟨_, rfl⟩
      obtain ⟨ab, hab⟩ : ∃ ab, ab = w9.heap.size := ⟨_, rfl⟩
      have S10 := S9.alloc (.cells #[.int .i64 x.h, .slice (some ⟨g, 0, none⟩) x.ks.length cap, .bool x.f2, .bool x.f3, .string x.f4, .bool x.f5, .int .i64 x.f6] 30)
      rw [← hab] at S10
      obtain ⟨d0, df0⟩ := blk1 S9.p4.blk
      obtain ⟨e0, ef0⟩ := blk1 S10.p5.blk
      have hklt := S9.p4.lt
      have S10b : Sat w0 _ (rW v (qs.map Pl.wr) * (pts ab (.cells q.wr.ce.toArray 30 (0, 0)) * (row 9 1 (.slice (some ⟨g, 0, none⟩) x.ks.length cap) x.ks.length (x.ks.map Value.string) * (wt r ps n * (pts nb (.cells #[.int .i64 x.h, x.e, .bool x.f2, .bool x.f3, .string x.f4, .bool x.f5, .int .i64 x.f6, .int .i64 x.c] 57) * (pts k0 (.cells #[v] 27) * (star (qs.map Pl.row) * (R * (Hd * (pts lp (.loop lr) * (R2))))))))))) := S10.cong (by rw [hq]; simp only [Pl.wr, Wr.ce]; ac_rfl)
      obtain ⟨g2, c2, w11, hr, S11⟩ := rW_app (x := q.wr) (b := ab) HQL.out S10b
      obtain ⟨h0, hf0⟩ := blk1 S11.p6.blk
      have HS11 := Lib.hid S11
      have HQ := Lib.hid hq
      have HAB := Lib.hid hab
      rw [hab] at hr
      clear S9 S10 S10b S11 hq hab
      try simp only [Act.put, List.setIfInBounds_toArray, List.set_cons_zero, List.set_cons_succ]
      refine wpAnyIn_ready (rs := [4]) (by kernel_rfl) (by simp) ?_
      refine AllReadyIn.cons rfl (fun K hK => ?_) AllReadyIn.nil
      go_simp
      refine hK _ _ ?_
      clear hK K
      try simp only [Act.put, List.setIfInBounds_toArray, List.set_cons_zero, List.set_cons_succ]
      refine wpAnyIn_ready (rs := [5]) (by kernel_rfl) (by simp) ?_
      refine AllReadyIn.cons rfl (fun K hK => ?_) AllReadyIn.nil
      refine stepIn_append_eq (by rfl) _ _ _ _ (by rfl) (by rfl) (by rfl) hr ?_
      refine hK _ _ ?_
      clear hK K
      try simp only [Act.put, List.setIfInBounds_toArray, List.set_cons_zero, List.set_cons_succ]
      refine wpAnyIn_ready (rs := [6]) (by kernel_rfl) (by simp) ?_
      refine AllReadyIn.cons rfl (fun K hK => ?_) AllReadyIn.nil
      go_simp
      refine hK _ _ ?_
      clear hK K
      try simp only [Act.put, List.setIfInBounds_toArray, List.set_cons_zero, List.set_cons_succ]
      refine wpAnyIn_done (by kernel_rfl) ?_ _
      have S11 := HS11.out
      rw [show (qs.map Pl.wr).length = qs.length from List.length_map _] at S11
      have S12 := S11.p6.setCell (i := 0) (.slice (some ⟨g2, 0, none⟩) (qs.length + 1) c2)
      have S13 := S12.p3.drop1.p5.drop1
      have hrow : q.row = row 9 1 (.slice (some ⟨g, 0, none⟩) x.ks.length cap) x.ks.length (x.ks.map Value.string) := by rw [HQ.out]; rfl
      have hco : (qs ++ [q]).map (fun q => q.wr.co) = (pre ++ [x]).map (fun q => q.wr.co) := by rw [List.map_append, List.map_append, HCO.out, List.map_cons, List.map_cons, HQ.out]; rfl
      show Sat w0 _ (Hd * ((wt r ps n * ex fun q : Value × List Pl => wh (q.2.map (fun q => q.wr.co) = (pre ++ [x]).map (fun q => q.wr.co)) (pts k0 (.cells #[q.1] 27) * (rW q.1 (q.2.map Pl.wr) * (star (q.2.map Pl.row) * R)))) * _))
      rw [mul_ex, ex_mul, mul_ex]
      refine Sat.mk_ex (.slice (some ⟨g2, 0, none⟩) (qs.length + 1) c2, qs ++ [q]) ?_
      rw [mul_wh, wh_mul, mul_wh]
      refine Sat.mk_wh hco (S13.cong ?_)
      simp only [List.map_append, List.map_cons, List.map_nil, star_append, star_cons, star_nil, mul_emp, hrow]
      ac_rfl
    refine AllReadyIn.cons rfl (fun K hK => ?_) AllReadyIn.nil
    go_simp
    gi_wp2_with (gi_at_call 20; refine (callsIn_wide.2 (own_calls hk0 hk1 HC.out HS1.out)).mono ?_; rintro en w9 ⟨g, cap, rfl, S9⟩)
    obtain ⟨q, hq⟩ : ∃ q : Pl, q = { x with g := g, cap := cap } := ⟨_, rfl⟩
    obtain ⟨ab, hab⟩ : ∃ ab, ab = w9.heap.size := ⟨_, rfl⟩
    have S10 := S9.alloc (.cells #[.int .i64 x.h, .slice (some ⟨g, 0, none⟩) x.ks.length cap, .bool x.f2, .bool x.f3, .string x.f4, .bool x.f5, .int .i64 x.f6] 30)
    rw [← hab] at S10
    obtain ⟨d0, df0⟩ := blk1 S9.p4.blk
    obtain ⟨e0, ef0⟩ := blk1 S10.p5.blk
    have hklt := S9.p4.lt
    have S10b : Sat w0 _ (rW v (qs.map Pl.wr) * (pts ab (.cells q.wr.ce.toArray 30 (0, 0)) * (row 9 1 (.slice (some ⟨g, 0, none⟩) x.ks.length cap) x.ks.length (x.ks.map Value.string) * (wt r ps n * (pts nb (.cells #[.int .i64 x.h, x.e, .bool x.f2, .bool x.f3, .string x.f4, .bool x.f5, .int .i64 x.f6, .int .i64 x.c] 57) * (pts k0 (.cells #[v] 27) * (star (qs.map Pl.row) * (R * (Hd * (pts lp (.loop lr) * (R2))))))))))) := S10.cong (by rw [hq]; simp only [Pl.wr, Wr.ce]; ac_rfl)
    obtain ⟨g2, c2, w11, hr, S11⟩ := rW_app (x := q.wr) (b := ab) HQL.out S10b
    obtain ⟨h0, hf0⟩ := blk1 S11.p6.blk
    have HS11 := Lib.hid S11
    have HQ := Lib.hid hq
    have HAB := Lib.hid hab
    rw [hab] at hr
    clear S9 S10 S10b S11 hq hab
    try simp only [Act.put, List.setIfInBounds_toArray, List.set_cons_zero, List.set_cons_succ]
    refine wpAnyIn_ready (rs := [0, 4]) (by kernel_rfl) (by simp) ?_
    refine AllReadyIn.cons rfl (fun K hK => ?_) ?_
    · go_simp
      refine hK _ _ ?_
      clear hK K
      try simp only [Act.put, List.setIfInBounds_toArray, List.set_cons_zero, List.set_cons_succ]
      refine wpAnyIn_ready (rs := [4]) (by kernel_rfl) (by simp) ?_
      refine AllReadyIn.cons rfl (fun K hK => ?_) AllReadyIn.nil
      go_simp
      refine hK _ _ ?_
      clear hK K
      try simp only [Act.put, List.setIfInBounds_toArray, List.set_cons_zero, List.set_cons_succ]
      refine wpAnyIn_ready (rs := [5]) (by kernel_rfl) (by simp) ?_
      refine AllReadyIn.cons rfl (fun K hK => ?_) AllReadyIn.nil
      refine stepIn_append_eq (by rfl) _ _ _ _ (by rfl) (by rfl) (by rfl) hr ?_
      refine hK _ _ ?_
      clear hK K
      try simp only [Act.put, List.setIfInBounds_toArray, List.set_cons_zero, List.set_cons_succ]
      refine wpAnyIn_ready (rs := [6]) (by kernel_rfl) (by simp) ?_
      refine AllReadyIn.cons rfl (fun K hK => ?_) AllReadyIn.nil
      go_simp
      refine hK _ _ ?_
      clear hK K
      try simp only [Act.put, List.setIfInBounds_toArray, List.set_cons_zero, List.set_cons_succ]
      refine wpAnyIn_done (by kernel_rfl) ?_ _
      have S11 := HS11.out
      rw [show (qs.map Pl.wr).length = qs.length from List.length_map _] at S11
      have S12 := S11.p6.setCell (i := 0) (.slice (some ⟨g2, 0, none⟩) (qs.length + 1) c2)
      have S13 := S12.p3.drop1.p5.drop1
      have hrow : q.row = row 9 1 (.slice (some ⟨g, 0, none⟩) x.ks.length cap) x.ks.length (x.ks.map Value.string) := by rw [HQ.out]; rfl
      have hco : (qs ++ [q]).map (fun q => q.wr.co) = (pre ++ [x]).map (fun q => q.wr.co) := by rw [List.map_append, List.map_append, HCO.out, List.map_cons, List.map_cons, HQ.out]; rfl
      show Sat w0 _ (Hd * ((wt r ps n * ex fun q : Value × List Pl => wh (q.2.map (fun q => q.wr.co) = (pre ++ [x]).map (fun q => q.wr.co)) (pts k0 (.cells #[q.1] 27) * (rW q.1 (q.2.map Pl.wr) * (star (q.2.map Pl.row) * R)))) * _))
      rw [mul_ex, ex_mul, mul_ex]
      refine Sat.mk_ex (.slice (some ⟨g2, 0, none⟩) (qs.length + 1) c2, qs ++ [q]) ?_
      rw [mul_wh, wh_mul, mul_wh]
      refine Sat.mk_wh hco (S13.cong ?_)
      simp only [List.map_append, List.map_cons, List.map_nil, star_append, star_cons, star_nil, mul_emp, hrow]
      ac_rfl
    refine AllReadyIn.cons rfl (fun K hK => ?_) AllReadyIn.nil
    go_simp
    refine hK _ _ ?_
    clear hK K
    try simp only [Act.put, List.setIfInBounds_toArray, List.set_cons_zero, List.set_cons_succ]
    refine wpAnyIn_ready (rs := [0]) (by kernel_rfl) (by simp) ?_
    refine AllReadyIn.cons rfl (fun K hK => ?_) AllReadyIn.nil
    go_simp
    refine hK _ _ ?_
    clear hK K
    try simp only [Act.put, List.setIfInBounds_toArray, List.set_cons_zero, List.set_cons_succ]
    refine wpAnyIn_ready (rs := [5]) (by kernel_rfl) (by simp) ?_
    refine AllReadyIn.cons rfl (fun K hK => ?_) AllReadyIn.nil
    refine stepIn_append_eq (by rfl) _ _ _ _ (by rfl) (by rfl) (by rfl) hr ?_
    refine hK _ _ ?_
    clear hK K
    try simp only [Act.put, List.setIfInBounds_toArray, List.set_cons_zero, List.set_cons_succ]
    refine wpAnyIn_ready (rs := [6]) (by kernel_rfl) (by simp) ?_
    refine AllReadyIn.cons rfl (fun K hK => ?_) AllReadyIn.nil
    go_simp
    refine hK _ _ ?_
    clear hK K
    try simp only [Act.put, List.setIfInBounds_toArray, List.set_cons_zero, List.set_cons_succ]
    refine wpAnyIn_done (by kernel_rfl) ?_ _
    have S11 := HS11.out
    rw [show (qs.map Pl.wr).length = qs.length from List.length_map _] at S11
    have S12 := S11.p6.setCell (i := 0) (.slice (some ⟨g2, 0, none⟩) (qs.length + 1) c2)
    have S13 := S12.p3.drop1.p5.drop1
    have hrow : q.row = row 9 1 (.slice (some ⟨g, 0, none⟩) x.ks.length cap) x.ks.length (x.ks.map Value.string) := by rw [HQ.out]; rfl
    have hco : (qs ++ [q]).map (fun q => q.wr.co) = (pre ++ [x]).map (fun q => q.wr.co) := by rw [List.map_append, List.map_append, HCO.out, List.map_cons, List.map_cons, HQ.out]; rfl
    show Sat w0 _ (Hd * ((wt r ps n * ex fun q : Value × List Pl => wh (q.2.map (fun q => q.wr.co) = (pre ++ [x]).map (fun q => q.wr.co)) (pts k0 (.cells #[q.1] 27) * (rW q.1 (q.2.map Pl.wr) * (star (q.2.map Pl.row) * R)))) * _))
    rw [mul_ex, ex_mul, mul_ex]
    refine Sat.mk_ex (.slice (some ⟨g2, 0, none⟩) (qs.length + 1) c2, qs ++ [q]) ?_
    rw [mul_wh, wh_mul, mul_wh]
    refine Sat.mk_wh hco (S13.cong ?_)
    simp only [List.map_append, List.map_cons, List.map_nil, star_append, star_cons, star_nil, mul_emp, hrow]
    ac_rfl
  case done =>
    clear HS2
    intro D ys W hys Sa
    subst hys
    rw [emp_mul, mul_ex, mul_ex] at Sa
    obtain ⟨⟨v, qs⟩, Sb⟩ := Sa.ex
    rw [mul_wh, mul_wh] at Sb
    obtain ⟨hco, Sc⟩ := Sb.wh
    simp only at hco Sc
    have S1 : Sat w0 W (pts k0 (.cells #[v] 27) * (pts D (.deferred (some [])) * (rW v (qs.map Pl.wr) * (star (qs.map Pl.row) * (wt r ys n * R))))) := Sc.cong (by ac_rfl)
    obtain ⟨c0, f0⟩ := blk1 S1.blk
    have HS := Lib.hid S1
    have HCO := Lib.hid hco
    clear Sa Sb Sc S1 hco
    gi_wp2_with fail
    refine leaves_mark (A := pts k0 (.cells #[v] 27) * (rW v (qs.map Pl.wr) * (star (qs.map Pl.row) * (wt r ys n * R)))) (HS.out.cong (by ac_rfl)) ?_
    clear HS c0 f0 W
    intro W S
    refine ⟨_, by simp [results, Try.results16, go_sem]; rfl, _, qs, HCO.out, rfl, ?_⟩
    exact S.drop1.drop1
  case stop =>
    intro D c pre W hp Sa
    rw [mul_wh, mul_wh] at Sa
    exact Sa.wh.1.elim
/-- Is its time over? -/
def dueP (now : Int) (p : Pl) : Bool := decide (0 < p.f6) && decide (p.f6 ≤ now)
def duP (now : Int) (l : List Pl) : List Pl := l.filter (dueP now)
def lft (now : Int) (l : List Pl) : List Pl := l.filter fun p => !dueP now p
theorem dropH_mid {a c : List Pl} {p : Pl} (hn : ((a ++ p :: c).map (·.h)).Nodup) : dropH (a ++ p :: c) p.h = a ++ c := by
  rw [List.map_append, List.map_cons, List.nodup_append, List.nodup_cons] at hn
  obtain ⟨h1, h2, h3⟩ := hn
  have e1 : dropH a p.h = a := List.filter_eq_self.2 fun q hq => by
    simp only [Bool.not_eq_true', decide_eq_false_iff_not]
    exact fun e => h3 _ (List.mem_map.2 ⟨q, hq, rfl⟩) _ List.mem_cons_self e
  have e2 : dropH c p.h = c := List.filter_eq_self.2 fun q hq => by
    simp only [Bool.not_eq_true', decide_eq_false_iff_not]
    exact fun e => h2.1 (List.mem_map.2 ⟨q, hq, e⟩)
  unfold dropH at *
  rw [List.filter_append, List.filter_cons_of_neg (by simp), e1, e2]
/-- The row as it stands behind pre. -/
abbrev stD (now : Int) (ps pre : List Pl) : List Pl := lft now pre ++ ps.drop pre.length
theorem stD_split {now : Int} {ps pre : List Pl} {x : Pl} (hp : pre ++ [x] <+: ps) : stD now ps pre = lft now pre ++ x :: ps.drop (pre ++ [x]).length := by
  obtain ⟨t, rfl⟩ := hp
  unfold stD
  congr 1
  rw [List.append_assoc, List.drop_append_of_le_length (Nat.le_refl _), List.drop_length, List.nil_append]
  simp
theorem stD_sub {now : Int} {ps pre : List Pl} (hp : pre <+: ps) : (stD now ps pre).Sublist ps := by
  obtain ⟨t, rfl⟩ := hp
  unfold stD
  rw [List.drop_append_of_le_length (Nat.le_refl _), List.drop_length, List.nil_append]
  exact List.Sublist.append List.filter_sublist (List.Sublist.refl _)
theorem stD_due {now : Int} {ps pre : List Pl} {x : Pl} (hn : (ps.map (·.h)).Nodup) (hp : pre ++ [x] <+: ps) (hd : dueP now x = true) : dropH (stD now ps pre) x.h = stD now ps (pre ++ [x]) := by
  have hs := (stD_sub (now := now) (List.IsPrefix.trans (List.prefix_append pre [x]) hp)).map (·.h)
  rw [stD_split hp] at hs ⊢
  rw [dropH_mid (hn.sublist hs)]
  unfold stD lft
  rw [List.filter_append, List.filter_cons_of_neg (by simp [hd]), List.filter_nil, List.append_nil]
theorem stD_left {now : Int} {ps pre : List Pl} {x : Pl} (hp : pre ++ [x] <+: ps) (hd : dueP now x = false) : stD now ps pre = stD now ps (pre ++ [x]) := by
  rw [stD_split hp]
  unfold stD lft
  rw [List.filter_append, List.filter_cons_of_pos (by simp [hd]), List.filter_nil, List.append_assoc]
  rfl
theorem stD_has {now : Int} {ps pre : List Pl} {x : Pl} (hp : pre ++ [x] <+: ps) : x ∈ stD now ps pre := by rw [stD_split hp]; simp
theorem duP_yes {now : Int} {pre : List Pl} {x : Pl} (hd : dueP now x = true) : duP now (pre ++ [x]) = duP now pre ++ [x] := by
  unfold duP
  rw [List.filter_append, List.filter_cons_of_pos hd, List.filter_nil]
theorem duP_no {now : Int} {pre : List Pl} {x : Pl} (hd : dueP now x = false) : duP now (pre ++ [x]) = duP now pre := by
  unfold duP
  rw [List.filter_append, List.filter_cons_of_neg (by simp [hd]), List.filter_nil, List.append_nil]
/-- What the rounds of Due turn. -/
abbrev dueI (r kr kn k0 : Nat) (now : Int) (ps : List Pl) (n : Int) (R : HP) (pre : List Pl) : HP :=
  wt r (stD now ps pre) n * (pts kr (.cells #[pt r] 25) * (pts kn (.cells #[.int .i64 now] 2) * (ex fun v : Value => pts k0 (.cells #[v] 27) * (rW v ((duP now pre).map Pl.wr) * (star ((duP now pre).map Pl.row) * R)))))
set_option maxHeartbeats 8000000 in
/-- 'Due'. -/
theorem wtDue {w0 w : World} {r : Nat} {ps : List Pl} {n now : Int} {R : HP} (S1 : Sat w0 w (wt r ps n * R)) :
    Calls Try.prog 11 #[pt r, .int .i64 now] w fun en w' => ∃ v : Value, en = .returned v ∧ Sat w0 w' (rW v ((duP now ps).map Pl.wr) * (star ((duP now ps).map Pl.row) * (wt r (lft now ps) n * R))) := by
  obtain ⟨k0, hk0⟩ : ∃ k0, k0 = w.heap.size := ⟨_, rfl⟩
  obtain ⟨_, _, hok, _⟩ := S1.wt_open
  have S2 := ((S1.alloc (.cells #[pt r] 25)).alloc (.cells #[.int .i64 now] 2)).alloc (.cells #[.slice none 0 0] 27)
  simp only [World.size_alloc] at S2
  rw [← hk0] at S2
  have HS2 := Lib.hid S2
  have HOK := Lib.hid hok
  have HK0 := Lib.hid hk0
  clear S1 S2 hk0 hok
  refine (callsIn_wide (n := 0)).1 ?_
  refine callsIn_of_wp_marks Try.func11 rfl trivial ?_
  simp only [Try.ntmps11, List.size_toArray, List.length_cons, List.length_nil, Nat.reduceAdd, Nat.reduceSub, Array.replicate_succ, Array.replicate_zero, List.push_toArray, List.append_toArray, List.nil_append, List.cons_append]
  gi_wp2_with fail
  rw [← HK0.out]
  refine wpIn_rangeFunc_g (w0 := w0) (gf := 21) (la := #[pt r]) (lb := #[]) rfl (enters_of Try.func21 (by kernel_rfl) rfl) (orderedIter HOK.out) (fun _ => rfl)
    (dueI r k0 (k0 + 1) (k0 + 1 + 1) now ps n R)
    (fun c pre => wh False emp) (pts k0 (.cells #[pt r] 25) * (pts (k0 + 1) (.cells #[.int .i64 now] 2) * (ex fun v : Value => pts (k0 + 1 + 1) (.cells #[v] 27) * (rW v [] * (emp * R)))))
    ?start (by simp [dueI, stD, lft, duP]) ?round ?done ?stop
  case start =>
    have := Sat.row_nil HS2.out 30 7
    rw [mul_ex, mul_ex, mul_ex]
    refine Sat.mk_ex (.slice none 0 0) (this.cong ?_)
    simp only [List.length_nil, List.flatMap_nil, rW, emp_mul]
    ac_rfl
  case round =>
    clear HS2
    intro lp Hd pre x W R1 hp Sa
    have hpl : ((duP now pre).map Pl.wr).length < 1000000 := by
      have h1 := hp.length_le
      have h2 := HOK.out.len
      have h3 : (duP now pre).length ≤ pre.length := List.length_filter_le _ _
      simp at *
      omega
    have Sx : Sat w0 W (wt r (stD now ps pre) n * (pts k0 (.cells #[pt r] 25) * (pts (k0 + 1) (.cells #[.int .i64 now] 2) * ((ex fun v : Value => pts (k0 + 1 + 1) (.cells #[v] 27) * (rW v ((duP now pre).map Pl.wr) * (star ((duP now pre).map Pl.row) * R))) * (Hd * R1))))) := Sa.cong (by simp only [dueI]; ac_rfl)
    obtain ⟨v, Sb⟩ := Sx.p4.ex1
    have HP := Lib.hid hp
    have HPL := Lib.hid hpl
    obtain ⟨nb, hnb⟩ : ∃ nb, nb = W.heap.size := ⟨_, rfl⟩
    have S3 := Sb.alloc (.cells #[.int .i64 x.h, x.e, .bool x.f2, .bool x.f3, .string x.f4, .bool x.f5, .int .i64 x.f6, .int .i64 x.c] 57)
    rw [← hnb] at S3
    have HS3 := Lib.hid S3
    have HNB := Lib.hid hnb
    clear Sa Sb Sx hpl S3 hnb hp
    have hv : encV x = #[.agg #[.int .i64 x.h, x.e, .bool x.f2, .bool x.f3, .string x.f4, .bool x.f5, .int .i64 x.f6, .int .i64 x.c]] := rfl
    rw [hv]
    clear hv
    gi_wp2_with fail
    rw [← HNB.out]
    refine ⟨pts nb (.cells #[.int .i64 x.h, x.e, .bool x.f2, .bool x.f3, .string x.f4, .bool x.f5, .int .i64 x.f6, .int .i64 x.c] 57) * (pts (k0 + 1 + 1) (.cells #[v] 27) * (pts k0 (.cells #[pt r] 25) * (pts (k0 + 1) (.cells #[.int .i64 now] 2) * (wt r (stD now ps pre) n * (rW v ((duP now pre).map Pl.wr) * (star ((duP now pre).map Pl.row) * (R * Hd))))))), HS3.out.cong (by ac_rfl), ?_⟩
    clear HS3 HNB W
    intro W lr R2 S
    have S1 : Sat w0 W (wt r (stD now ps pre) n * (pts nb (.cells #[.int .i64 x.h, x.e, .bool x.f2, .bool x.f3, .string x.f4, .bool x.f5, .int .i64 x.f6, .int .i64 x.c] 57) * (pts (k0 + 1 + 1) (.cells #[v] 27) * (pts k0 (.cells #[pt r] 25) * (pts (k0 + 1) (.cells #[.int .i64 now] 2) * (rW v ((duP now pre).map Pl.wr) * (star ((duP now pre).map Pl.row) * (R * (Hd * (pts lp (.loop lr) * R2)))))))))) := S.cong (by ac_rfl)
    obtain ⟨a0, a1, a2, a3, a4, a5, a6, a7, af⟩ := blk8 S1.p2.blk
    obtain ⟨c0, cf⟩ := blk1 S1.p4.blk
    obtain ⟨n0, nf⟩ := blk1 S1.p5.blk
    have HS1 := Lib.hid S1
    clear S S1
    cases hd : dueP now x with
    | false =>
      have HDN := Lib.hid hd
      have hq : (decide (0 < x.f6) && decide (x.f6 ≤ now)) = false := hd
      have HS4 : Hid (Sat w0 W (Hd * (dueI r k0 (k0 + 1) (k0 + 1 + 1) now ps n R (pre ++ [x]) * (pts lp (.loop lr) * R2)))) := Lib.hid (by
        have := HS1.out.p2.drop1
        rw [stD_left HP.out hd] at this
        simp only [dueI]
        rw [duP_no hd]
        rw [mul_ex, mul_ex, mul_ex, ex_mul, mul_ex]
        exact Sat.mk_ex v (this.cong (by ac_rfl)))
      by_cases h1 : 0 < x.f6
      · have hd1 : decide (x.f6 > 0) = true := decide_eq_true h1
        have hd2 : decide (x.f6 ≤ now) = false := by simpa [h1] using hq
        clear hq h1 hd HS1
        gi_wp2_with fail
        exact HS4.out
      · have hd1 : decide (x.f6 > 0) = false := decide_eq_false h1
        clear hq h1 hd HS1
        gi_wp2_with fail
        exact HS4.out
    | true =>
      have hq : (decide (0 < x.f6) && decide (x.f6 ≤ now)) = true := hd
      have hd1 : decide (x.f6 > 0) = true := by simp at hq; simpa using hq.1
      have hd2 : decide (x.f6 ≤ now) = true := by simp at hq; simpa using hq.2
      have HDY := Lib.hid hd
      clear hq hd
      gi_wp2_with (first
        | (gi_at_call 9; refine (callsIn_wide.2 (wtDrop_some (stD_has HP.out) HS1.out)).mono ?_; rintro en w9 ⟨rfl, S9⟩; unfold Pl.wv;
           rw [stD_due HOK.out.hs HP.out HDY.out] at S9;
           obtain ⟨vb, hvb⟩ : ∃ vb, vb = w9.heap.size := ⟨_, rfl⟩;
           have S10 := (S9.alloc (.cells #[.int .i64 x.h, x.e, .bool x.f2, .bool x.f3, .string x.f4, .bool x.f5, .int .i64 x.f6] 30)).alloc (.cells #[.int .i64 x.h, x.e, .bool x.f2, .bool x.f3, .string x.f4, .bool x.f5, .int .i64 x.f6] 30);
           simp only [World.size_alloc] at S10;
           obtain ⟨d0, df⟩ := blk1 S9.p4.blk;
           have hdlt := S9.p4.lt;
           have S11 : Sat w0 _ (rW v ((duP now pre).map Pl.wr) * (pts (w9.heap.size + 1) (.cells x.wr.ce.toArray 30 (0, 0)) * (wt r (stD now ps (pre ++ [x])) n * (pts (k0 + 1 + 1) (.cells #[v] 27) * (x.row * (pts k0 (.cells #[pt r] 25) * (pts (k0 + 1) (.cells #[.int .i64 now] 2) * (star ((duP now pre).map Pl.row) * (R * (Hd * (pts lp (.loop lr) * (R2)))))))))))) := S10.p2.drop1.p4.drop1.cong (by simp only [Pl.wr, Wr.ce]; ac_rfl);
           obtain ⟨g2, c2, w11, hr, S12⟩ := rW_app HPL.out S11;
           obtain ⟨h0, hf⟩ := blk1 S12.p4.blk;
           have HS12 := Lib.hid S12;
           clear S9 S10 S11 S12)
        | (gi_at_builtin; refine wpListIn_append_eq rfl _ _ _ _ rfl rfl rfl hr ?_))
      have S11 := HS12.out
      rw [show ((duP now pre).map Pl.wr).length = (duP now pre).length from List.length_map _] at S11
      have S12 := S11.p4.setCell (i := 0) (.slice (some ⟨g2, 0, none⟩) ((duP now pre).length + 1) c2)
      have S13 := S12.p3.drop1
      show Sat w0 _ (Hd * (dueI r k0 (k0 + 1) (k0 + 1 + 1) now ps n R (pre ++ [x]) * _))
      simp only [dueI]
      rw [duP_yes HDY.out, mul_ex, mul_ex, mul_ex, ex_mul, mul_ex]
      refine Sat.mk_ex (.slice (some ⟨g2, 0, none⟩) ((duP now pre).length + 1) c2) (S13.cong ?_)
      simp only [List.map_append, List.map_cons, List.map_nil, star_append, star_cons, star_nil, mul_emp]
      ac_rfl
  case done =>
    clear HS2
    intro D ys W hys Sa
    subst hys
    simp only [dueI] at Sa
    rw [emp_mul, mul_ex, mul_ex, mul_ex, mul_ex] at Sa
    obtain ⟨v, Sb⟩ := Sa.ex
    have hst : stD now ys ys = lft now ys := by unfold stD; rw [List.drop_length, List.append_nil]
    rw [hst] at Sb
    have S1 : Sat w0 W (pts (k0 + 1 + 1) (.cells #[v] 27) * (pts D (.deferred (some [])) * (rW v ((duP now ys).map Pl.wr) * (star ((duP now ys).map Pl.row) * (wt r (lft now ys) n * (pts k0 (.cells #[pt r] 25) * (pts (k0 + 1) (.cells #[.int .i64 now] 2) * (R)))))))) := Sb.cong (by ac_rfl)
    obtain ⟨c0, f0⟩ := blk1 S1.blk
    have HS := Lib.hid S1
    clear Sa Sb S1
    gi_wp2_with fail
    refine leaves_mark (A := pts (k0 + 1 + 1) (.cells #[v] 27) * (rW v ((duP now ys).map Pl.wr) * (star ((duP now ys).map Pl.row) * (wt r (lft now ys) n * (pts k0 (.cells #[pt r] 25) * (pts (k0 + 1) (.cells #[.int .i64 now] 2) * (R))))))) (HS.out.cong (by ac_rfl)) ?_
    clear HS c0 f0 W
    intro W S
    refine ⟨_, by simp [results, Try.results11, go_sem]; rfl, _, rfl, ?_⟩
    have S2 := S.drop1.drop1
    exact S2.p4.drop1.p4.drop1
  case stop =>
    intro D c pre W hp Sa
    rw [mul_wh, mul_wh] at Sa
    exact Sa.wh.1.elim
end Go.Sl
