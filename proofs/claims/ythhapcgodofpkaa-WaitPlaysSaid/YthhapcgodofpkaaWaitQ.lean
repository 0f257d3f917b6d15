/-
  The document's answer for layer 38, by contract: First, Add, Same.
-/
import Derived.Test.YthhapcgodofpkaaWaitR
namespace Go.Sl
open Go.RowKit Go.Proofs Go.Proofs.YthhapcgodofpkaaW.PrintWords
set_option linter.unusedVariables false
set_option linter.unusedSimpArgs false
set_option maxRecDepth 100000

/-- A run of append that is known. -/
structure AppR (P : Program) (w : World) (t u ty : TypeId) (v y v' : Value) (w' : World) : Prop where
  run : (Builtin.append_ #[t, u] ty #[v, y]).run P w = .ok v' w'
/-- append, its run being known, as one step of a region that draws. -/
theorem step_append_R {P : Program} {ops : Array Oper} {o : Oper} {a : Act} {w w' : World} {K : Act → World → Prop} {Q : Exit → Act → World → Prop} {E : Prop}
    (hg : o.guard = none) (s x : Operand) (t u : TypeId) (hop : o.op = .call { callee := .builtin .append, args := #[s, x], argTypes := #[t, u] }) {v y v' : Value} (hr : AppR P w t u o.type v y v' w') (hs : a.eval s = v) (hx : a.eval x = y)
    (hK : K (a.put o.dst v') w') : if Region.wanted o (yielded ops a.tmps) = true then Oper.wp P o a w K Q else E := by
  have hw : Region.wanted o (yielded ops a.tmps) = true := by simp [Region.wanted, hg]
  have hr := hr.run
  rw [if_pos hw]
  unfold Oper.wp
  simp [execOp, hop, resolve, invoke, builtin, hs, hx, hr, Result.andThen]
  exact hK
/-- The keys of these can be read. -/
def keysR (w : World) (xs : List Wr) : Prop := ∀ x ∈ xs, x.ks.length ≤ 1000000 ∧ Kd.C Kd.string w x.A x.ks.length x.ks
theorem keysR_below {w w' : World} {xs : List Wr} (h : keysR w xs) (hb : Below w.heap.size w w') : keysR w' xs := fun x hx => ⟨(h x hx).1, Kd.C_below (h x hx).2 hb⟩
def firstW (xs : List Wr) (key : ByteArray) : Option Wr := xs.find? fun x => hasS x.ks key
theorem firstW_at {xs : List Wr} {key : ByteArray} {i : Nat} (h : i < xs.length) (hb : ∀ j (hj : j < xs.length), j < i → hasS xs[j].ks key = false) (he : hasS xs[i].ks key = true) : firstW xs key = some xs[i] := by
  have : xs = xs.take i ++ xs[i] :: xs.drop (i + 1) := by rw [← List.drop_eq_getElem_cons h, List.take_append_drop]
  rw [show firstW xs key = firstW (xs.take i ++ xs[i] :: xs.drop (i + 1)) key from congrArg (fun z => firstW z key) this]
  unfold firstW
  rw [List.find?_append, List.find?_eq_none.2 (fun y hy => ?_)]
  · rw [List.find?_cons_of_pos (by simpa using he)]; rfl
  · obtain ⟨j, hj, rfl⟩ := List.mem_take_iff_getElem.1 hy
    simpa using hb j (by omega) (by omega)
theorem firstW_no {xs : List Wr} {key : ByteArray} (hb : ∀ j (hj : j < xs.length), hasS xs[j].ks key = false) : firstW xs key = none := List.find?_eq_none.2 fun x hx => by
  obtain ⟨j, hj, rfl⟩ := List.mem_iff_getElem.1 hx
  simpa using hb j hj
set_option maxHeartbeats 4000000 in
/-- 'R.First'. -/
theorem rFirstW {w0 w : World} {v : Value} {xs : List Wr} {key : ByteArray} {R : HP} (hl : xs.length ≤ 1000000) (hk : keysR w xs) (S : Sat w0 w (rW v xs * R)) :
    Calls Try.prog 14 #[v, .string key] w fun en w' => en = .returned (.tuple #[.agg ((firstW xs key).getD zW).ce.toArray, .bool (firstW xs key).isSome]) ∧ Sat w0 w' (rW v xs * R) := by
  obtain ⟨A, c, rfl, hc, -⟩ := Sat.row_C flatWr rfl S
  have HL := Lib.hid hl
  obtain ⟨b, hb⟩ : ∃ b, b = w.heap.size := ⟨_, rfl⟩
  have S2 := (S.alloc (.cells zW.ce.toArray 30))
  rw [← hb] at S2
  have HS : Hid (Sat w0 (w.alloc (.cells zW.ce.toArray 30)) (pts b (.cells zW.ce.toArray 30) * (rW (.slice A xs.length c) xs * R))) := Lib.hid S2
  have HB := Lib.hid hb
  have HK := Lib.hid (keysR_below hk ((Below.refl _ _).alloc (Nat.le_refl _) _ : Below w.heap.size w (w.alloc (.cells zW.ce.toArray 30))))
  clear S S2 hl hc hb hk
  go_enter Try.func14, Try.ntmps14
  go_wp2_with fail
  rw [← HB.out]
  have hg : w.alloc (.cells #[.int .i64 0, .slice none 0 0, .bool false, .bool false, .string ⟨#[]⟩, .bool false, .int .i64 0] 30) = w.alloc (.cells zW.ce.toArray 30) := rfl
  rw [hg]
  generalize w.alloc (.cells zW.ce.toArray 30) = w1 at *
  clear hg HB
  go_loopw [6] (fun v6 wr => ∃ i : Nat, v6 = .int .i64 i ∧ i ≤ xs.length ∧ Hid (∀ j (h' : j < xs.length), j < i → hasS xs[j].ks key = false) ∧ wr = w1) (fun v6 _ => xs.length - (RowKit.intOf v6).toNat)
  case atStart => exact ⟨0, rfl, by omega, Lib.hid (fun j _ h => absurd h (by omega)), rfl⟩
  case round =>
    obtain ⟨i, rfl, hi, HBf, rfl⟩ := hrel
    by_cases hlt : i < xs.length
    · have hwi := up_i hlt HL.out
      obtain ⟨g, e1, x0, x1, x2, x3, x4, x5, x6⟩ := HS.out.p2.rW_at hlt
      subst e1
      have hkx := HK.out xs[i] (List.getElem_mem hlt)
      have HKX := Lib.hid hkx
      clear hkx
      go_wp2_with fail
      refine (sHas HKX.out.1 HKX.out.2).mono ?_
      rintro en w2 ⟨rfl, rfl⟩
      cases hh : hasS xs[i].ks key with
      | true =>
        have HF := Lib.hid (firstW_at hlt HBf.out hh)
        obtain ⟨d0, d1, d2, d3, d4, d5, d6, df⟩ := blk7 HS.out.blk
        obtain ⟨x, hx⟩ : ∃ x, x = xs[i] := ⟨_, rfl⟩
        rw [← hx] at x0 x1 x2 x3 x4 x5 x6 HF
        have S3 := ((((((HS.out.setCell (i := 0) (.int .i64 x.h)).setCell (i := 1) (.slice x.A x.ks.length x.cap)).setCell (i := 2) (.bool x.f2)).setCell (i := 3) (.bool x.f3)).setCell (i := 4) (.string x.f4)).setCell (i := 5) (.bool x.f5)).setCell (i := 6) (.int .i64 x.f6)
        have HS3 := Lib.hid S3.drop1
        have HBK := Lib.hid S3.blk
        clear S3 hh hx HKX
        go_wp2_with fail
        refine bodyPost_ret (results_ct rfl _ _ b 30 _ (0, 0) _ rfl HBK.out Try.underlying30 rfl wsize) rfl ?_
        exact ⟨by rw [HF.out]; rfl, HS3.out⟩
      | false =>
        have HB2 : Hid (∀ j (h' : j < xs.length), j < i + 1 → hasS xs[j].ks key = false) := Lib.hid (fun j hj hji => by
          by_cases e : j = i
          · subst e; exact hh
          · exact HBf.out j hj (by omega))
        clear hh HKX
        go_wp2_with fail
        go_roundw
        case rel => exact ⟨i + 1, by rw [hwi], by omega, HB2, by trivial⟩
        case measure => rw [hwi]; simp only [RowKit.intOf, Int.toNat_natCast]; omega
    · have hie : i = xs.length := by omega
      have HN : Hid (firstW xs key = none) := Lib.hid (firstW_no fun j hj => HBf.out j hj (by omega))
      subst hie
      obtain ⟨d0, d1, d2, d3, d4, d5, d6, df⟩ := blk7 HS.out.blk
      have S3 := ((((((HS.out.setCell (i := 0) (.int .i64 0)).setCell (i := 1) (.slice none 0 0)).setCell (i := 2) (.bool false)).setCell (i := 3) (.bool false)).setCell (i := 4) (.string ⟨#[]⟩)).setCell (i := 5) (.bool false)).setCell (i := 6) (.int .i64 0)
      have HS3 := Lib.hid S3.drop1
      have HBK := Lib.hid S3.blk
      clear S3
      go_wp2_with fail
      refine bodyPost_ret (results_ct rfl _ _ b 30 _ (0, 0) _ rfl HBK.out Try.underlying30 rfl wsize) rfl ?_
      exact ⟨by rw [HN.out]; rfl, HS3.out⟩
theorem waNil (ty : TypeId) {w0 w : World} {A : Option Addr} {xs : List Wr} {c : Nat} {R : HP} (hl : xs.length ≤ 1000000) (S : Sat w0 w (rW (.slice A xs.length c) xs * R)) :
    ∃ A1 c1 w', (Builtin.append_ #[27, 27] 27 #[.slice none 0 0, .slice A xs.length c]).run Try.prog w = .ok (.slice A1 xs.length c1) w' ∧ Sat w0 w' (rW (.slice A1 xs.length c1) xs * (rW (.slice A xs.length c) xs * R)) := by
  obtain ⟨hl2, ho⟩ := S.row_open
  rcases ho with ⟨hv, h0, hx, _⟩ | ⟨g, cap, cur, hv, _⟩
  · obtain ⟨i, hi, _⟩ := info_parts waInfo
    injection hv with e1 e2 e3
    have hxs : xs = [] := List.eq_nil_of_length_eq_zero h0
    subst hxs e1
    exact ⟨none, 0, w, run_append_nil _ Try.underlying27 hi (Nat.le_refl _) w, S.row_nil _ _⟩
  · injection hv with e1 e2 e3
    subst e1
    obtain ⟨v', w', hr, S'⟩ := (S.row_nil 30 7).run_append 27 27 Try.underlying27 waInfo rfl (by decide) ⟨g, 0, none⟩ xs.length c (xs.flatMap Wr.ce) (flat_length flatWr xs) (fun j u hj => by
      obtain ⟨g', e1, hc⟩ := S.row_cells j u hj
      injection e1 with e1
      injection e1 with e1
      subst e1
      rw [Addr.add_lit, Nat.zero_add]
      exact hc) (fun u hu => by
      obtain ⟨x, _, hx⟩ := List.mem_flatMap.1 hu
      exact x.ce_one u hx) (by unfold maxLen; omega) (by omega)
    have S'' : Sat w0 w' (rW v' xs * (rW (.slice (some ⟨g, 0, none⟩) xs.length c) xs * R)) := S'.cong (by simp only [rW, Nat.zero_add, List.nil_append])
    obtain ⟨A1, c1, rfl, -, -⟩ := Sat.row_C flatWr rfl S''
    exact ⟨A1, c1, w', hr, S''⟩
abbrev Wr.v (x : Wr) : Value := .agg #[.int .i64 x.h, .slice x.A x.ks.length x.cap, .bool x.f2, .bool x.f3, .string x.f4, .bool x.f5, .int .i64 x.f6]
abbrev Wr.o (x : Wr) : Obj := .cells #[.int .i64 x.h, .slice x.A x.ks.length x.cap, .bool x.f2, .bool x.f3, .string x.f4, .bool x.f5, .int .i64 x.f6] 30 (0, 0)
set_option maxHeartbeats 4000000 in
/-- 'R.Add', of one that waits for nothing, or is there. -/
theorem rAddW_no {w0 w : World} {v : Value} {xs : List Wr} {x : Wr} {R : HP} (hl : xs.length ≤ 1000000) (hno : x.ks = [] ∨ hasW xs x.h = true) (S : Sat w0 w (rW v xs * R)) :
    Calls Try.prog 8 #[v, x.v] w fun en w' => en = .returned (.tuple #[v, .bool false]) ∧ Sat w0 w' (rW v xs * R) := by
  have HL := Lib.hid hl
  obtain ⟨b, hb⟩ : ∃ b, b = w.heap.size := ⟨_, rfl⟩
  have S2 := (S.alloc x.o)
  rw [← hb] at S2
  have HS := Lib.hid S2.p2
  have HB := Lib.hid hb
  clear S S2 hl hb
  by_cases h0 : x.ks = []
  · have hz : x.ks.length = 0 := by rw [h0]; rfl
    clear hno h0
    unfold Wr.v at *
    unfold Wr.o at *
    rw [hz] at HS ⊢
    have HS2 := Lib.hid HS.out.p2.drop1
    go_enter Try.func8, Try.ntmps8
    go_wp2_with fail
    go_ret2
    exact ⟨rfl, HS2.out⟩
  · have hh : hasW xs x.h = true := hno.resolve_left h0
    have hz : ((x.ks.length : Int) == 0) = false := by
      rw [beq_eq_false_iff_ne]
      have := List.length_pos_iff.2 h0
      omega
    have HH := Lib.hid hh
    have HS2 := Lib.hid HS.out.p2.drop1
    clear hno h0 hh
    go_enter Try.func8, Try.ntmps8
    go_wp2_with fail
    refine (rHas HL.out HS.out).mono ?_
    rintro en w2 ⟨rfl, rfl⟩
    rw [HH.out]
    go_wp2_with fail
    go_ret2
    exact ⟨rfl, HS2.out⟩
set_option maxHeartbeats 8000000 in
/-- 'R.Add', of one that comes. -/
theorem rAddW_yes {w0 w : World} {v : Value} {xs : List Wr} {x : Wr} {R : HP} (hl : xs.length < 1000000) (h0 : x.ks ≠ []) (hh : hasW xs x.h = false) (S : Sat w0 w (rW v xs * R)) :
    Calls Try.prog 8 #[v, x.v] w fun en w' => ∃ v', en = .returned (.tuple #[v', .bool true]) ∧ Sat w0 w' (rW v' (xs ++ [x]) * R) := by
  obtain ⟨A, c, rfl, hc, -⟩ := Sat.row_C flatWr rfl S
  have HL := Lib.hid hl
  obtain ⟨b, hb⟩ : ∃ b, b = w.heap.size := ⟨_, rfl⟩
  have S2 := (S.alloc x.o)
  rw [← hb] at S2
  have HS := Lib.hid S2.p2
  have HB := Lib.hid hb
  have hz : ((x.ks.length : Int) == 0) = false := by
    rw [beq_eq_false_iff_ne]
    have := List.length_pos_iff.2 h0
    omega
  have HH := Lib.hid hh
  clear S S2 hl hb hh h0 hc
  go_enter Try.func8, Try.ntmps8
  go_wp2_with fail
  rw [← HB.out]
  refine (rHas (Nat.le_of_lt HL.out) HS.out).mono ?_
  rintro en w2 ⟨rfl, rfl⟩
  rw [HH.out]
  have hg : w.alloc (.cells #[.int .i64 x.h, .slice x.A x.ks.length x.cap, .bool x.f2, .bool x.f3, .string x.f4, .bool x.f5, .int .i64 x.f6] 30) = w.alloc x.o := rfl
  rw [hg]
  generalize w.alloc x.o = w1 at *
  clear hg HB HH
  obtain ⟨a0, a1, a2, a3, a4, a5, a6, af⟩ := blk7 HS.out.p2.blk
  -- append first, then the array of one
  obtain ⟨A1, c1, wa, hr1, Sa⟩ := waNil 0 (Nat.le_of_lt HL.out) HS.out.drew
  obtain ⟨g2, c2, wb, hr2, Sb⟩ := rW_app_at (x := x) HL.out Sa
  -- the array of one first
  have Sc := HS.out.drew.alloc (.cells x.ce.toArray 30)
  obtain ⟨A3, c3, wd, hr3, Sd⟩ := waNil 0 (Nat.le_of_lt HL.out) Sc.p2
  obtain ⟨g4, c4, we, hr4, Se⟩ := rW_app (x := x) HL.out (Sd.p3.p2)
  obtain ⟨e0, e1, e2, e3, e4, e5, e6, ef⟩ := blk7 Sa.p3.blk
  have HSb := Lib.hid Sb.p2.drop1.p2.drop1
  have HSe := Lib.hid Se.p2.drop1.p2.drop1.p2.drop1
  simp only [Wr.ce] at hr2 hr3 hr4
  have hr1 := AppR.mk hr1
  have hr2 := AppR.mk hr2
  have hr3 := AppR.mk hr3
  have hr4 := AppR.mk hr4
  clear Sa Sb Sc Sd Se HS
  go_wp2_with fail
  go_region_law ((first
    | refine step_append_R (by rfl) _ _ _ _ (by rfl) hr1 (by rfl) (by rfl) ?_
    | refine step_append_R (by rfl) _ _ _ _ (by rfl) hr2 (by rfl) (by rfl) ?_
    | refine step_append_R (by rfl) _ _ _ _ (by rfl) hr3 (by rfl) (by rfl) ?_
    | refine step_append_R (by rfl) _ _ _ _ (by rfl) hr4 (by rfl) (by rfl) ?_))
  all_goals
    go_wp2_with fail
    go_ret2
    first
    | exact ⟨_, rfl, HSb.out⟩
    | exact ⟨_, rfl, HSe.out⟩
theorem cell_lt {w : World} {b i : Nat} {v : Value} (h : w.cell? ⟨b, i, none⟩ = some v) : b < w.heap.size := by
  unfold World.cell? at h
  rcases Nat.lt_or_ge b w.heap.size with hlt | hge
  · exact hlt
  · rw [show w.heap[(⟨b, i, none⟩ : Addr).block]? = none from Array.getElem?_eq_none hge] at h
    cases h
theorem co_at {xs ys : List Wr} (h : xs.map Wr.co = ys.map Wr.co) {i : Nat} (h1 : i < xs.length) (h2 : i < ys.length) : xs[i].h = ys[i].h ∧ xs[i].ks = ys[i].ks ∧ xs[i].f2 = ys[i].f2 ∧ xs[i].f3 = ys[i].f3 ∧ xs[i].f4 = ys[i].f4 ∧ xs[i].f5 = ys[i].f5 ∧ xs[i].f6 = ys[i].f6 := by
  have : (xs.map Wr.co)[i]'(by simpa using h1) = (ys.map Wr.co)[i]'(by simpa using h2) := by simp only [h]
  simp only [List.getElem_map, Wr.co, Prod.mk.injEq] at this
  exact this
set_option maxHeartbeats 8000000 in
/-- 'R.Same', of the same. -/
theorem rSameW {w0 w : World} {va vb : Value} {xs ys : List Wr} {R : HP} (hl : xs.length ≤ 1000000) (hco : xs.map Wr.co = ys.map Wr.co) (hkx : keysR w xs) (hky : keysR w ys) (S : Sat w0 w (rW va xs * (rW vb ys * R))) :
    Calls Try.prog 15 #[va, vb] w fun en w' => en = .returned (.bool true) ∧ Sat w0 w' (rW va xs * (rW vb ys * R)) := by
  have hyl : ys.length = xs.length := by have := congrArg List.length hco; simpa using this.symm
  obtain ⟨A, c, rfl, -, -⟩ := Sat.row_C flatWr rfl S
  obtain ⟨B, d, rfl, -, -⟩ := Sat.row_C flatWr rfl S.p2
  have HS := Lib.hid S
  have HL := Lib.hid hl
  have HC := Lib.hid hco
  have HX := Lib.hid hkx
  have HY := Lib.hid hky
  have HYL := Lib.hid hyl
  rw [hyl]
  clear S hl hco hkx hky hyl
  go_enter Try.func15, Try.ntmps15
  go_wp2_with fail
  go_loopw [5] (fun v5 wr => ∃ i : Nat, v5 = .int .i64 i ∧ i ≤ xs.length ∧ Hid (Below w.heap.size w wr)) (fun v5 _ => xs.length - (RowKit.intOf v5).toNat)
  case atStart => exact ⟨0, rfl, by omega, Lib.hid (Below.refl _ _)⟩
  case round =>
    obtain ⟨i, rfl, hi, HBW⟩ := hrel
    by_cases hlt : i < xs.length
    · have hwi := up_i hlt HL.out
      have hlt2 : i < ys.length := by rw [HYL.out]; exact hlt
      have S1 := HS.out.below HBW.out
      obtain ⟨g, e1, x0, x1, x2, x3, x4, x5, x6⟩ := S1.rW_at hlt
      obtain ⟨g', e2, y0, y1, y2, y3, y4, y5, y6⟩ := S1.p2.rW_at hlt2
      subst e1 e2
      have HKX := Lib.hid (keysR_below HX.out HBW.out xs[i] (List.getElem_mem hlt))
      have HKY := Lib.hid (keysR_below HY.out HBW.out ys[i] (List.getElem_mem hlt2))
      obtain ⟨q0, q1, q2, q3, q4, q5, q6⟩ := co_at HC.out hlt hlt2
      rw [← q0] at y0
      rw [← q1] at y1 HKY
      rw [← q2] at y2
      rw [← q3] at y3
      rw [← q4] at y4
      rw [← q5] at y5
      rw [← q6] at y6
      clear q0 q1 q2 q3 q4 q5 q6 S1
      generalize ys[i].A = yA at *
      generalize ys[i].cap = yc at *
      generalize xs[i] = x at *
      have hgl := cell_lt x0
      have hgl' := cell_lt y0
      clear hlt2
      obtain ⟨h, ks, xA, xc, f2, f3, f4, f5, f6⟩ := x
      simp only at x0 x1 x2 x3 x4 x5 x6 y0 y1 y2 y3 y4 y5 y6 HKX HKY
      go_wp2_with fail
      go_region
      · have SZ := (((Sat.start wr).alloc (.cells #[.int .i64 h, .slice xA ks.length xc, .bool f2, .bool f3, .string f4, .bool f5, .int .i64 f6] 30)).alloc (.cells #[.int .i64 h, .slice yA ks.length yc, .bool f2, .bool f3, .string f4, .bool f5, .int .i64 f6] 30)).drew
        simp only [World.size_alloc] at SZ
        obtain ⟨b0, b1, b2, b3, b4, b5, b6, bf⟩ := blk7 SZ.blk
        obtain ⟨a0, a1, a2, a3, a4, a5, a6, af⟩ := blk7 SZ.p2.blk
        have hbz : Below wr.heap.size wr _ := SZ.drop1.drop1.old1
        have HBZ : Hid (Below w.heap.size w _) := Lib.hid (HBW.out.trans (hbz.mono HBW.out.size))
        have HKXZ := Lib.hid (Kd.C_below HKX.out.2 hbz)
        have HKYZ := Lib.hid (Kd.C_below HKY.out.2 hbz)
        have HKL := Lib.hid HKX.out.1
        have HA := Lib.hid SZ.blk
        have HAA := Lib.hid SZ.p2.blk
        clear SZ hbz HKX HKY
        generalize (((wr.alloc (.cells #[.int .i64 h, .slice xA ks.length xc, .bool f2, .bool f3, .string f4, .bool f5, .int .i64 f6] 30)).alloc (.cells #[.int .i64 h, .slice yA ks.length yc, .bool f2, .bool f3, .string f4, .bool f5, .int .i64 f6] 30)).drew) = wz at *
        generalize wr.heap.size + 1 = p1 at *
        generalize wr.heap.size = p0 at *
        clear HBW
        go_wp2_with fail
        go_loopw [8] (fun v8 wy => ∃ k : Nat, v8 = .int .i64 k ∧ k ≤ ks.length ∧ Hid (Below wz.heap.size wz wy)) (fun v8 _ => ks.length - (RowKit.intOf v8).toNat)
        case atStart => exact ⟨0, rfl, by omega, Lib.hid (Below.refl _ _)⟩
        case round =>
          obtain ⟨k, rfl, hk, HBY⟩ := hrel
          have ha := (HBY.out.block _ (Array.getElem?_eq_some_iff.1 HA.out).1).trans HA.out
          have haa := (HBY.out.block _ (Array.getElem?_eq_some_iff.1 HAA.out).1).trans HAA.out
          obtain ⟨r0, r1, r2, r3, r4, r5, r6, rf⟩ := blk7 ha
          obtain ⟨t0, t1, t2, t3, t4, t5, t6, tf⟩ := blk7 haa
          clear ha haa
          by_cases hkl : k < ks.length
          · have hwk := up_i hkl HKL.out
            obtain ⟨ad, e1, z0⟩ := Kd.at_string (Kd.C_below HKXZ.out HBY.out) k (by omega) (by omega)
            obtain ⟨ae, e2, z1⟩ := Kd.at_string (Kd.C_below HKYZ.out HBY.out) k (by omega) (by omega)
            subst e1 e2
            rw [Int.toNat_natCast] at z0 z1
            generalize rdOf ByteArray.empty ks (k : Int) = key at *
            go_wp2_with fail
            go_region
            go_wp2_with fail
            go_roundw
            case rel => exact ⟨k + 1, by rw [hwk], by omega, Lib.hid HBY.out.drew⟩
            case measure => rw [hwk]; simp only [RowKit.intOf, Int.toNat_natCast]; omega
          · have hke : k = ks.length := by omega
            subst hke
            go_wp2_with fail
            go_roundw
            case rel => exact ⟨i + 1, by rw [hwi], by omega, Lib.hid (HBZ.out.trans (HBY.out.mono HBZ.out.size))⟩
            case measure => rw [hwi]; simp only [RowKit.intOf, Int.toNat_natCast]; omega
      · have SZ := (((Sat.start wr).alloc (.cells #[.int .i64 h, .slice yA ks.length yc, .bool f2, .bool f3, .string f4, .bool f5, .int .i64 f6] 30)).alloc (.cells #[.int .i64 h, .slice xA ks.length xc, .bool f2, .bool f3, .string f4, .bool f5, .int .i64 f6] 30)).drew
        simp only [World.size_alloc] at SZ
        obtain ⟨a0, a1, a2, a3, a4, a5, a6, af⟩ := blk7 SZ.blk
        obtain ⟨b0, b1, b2, b3, b4, b5, b6, bf⟩ := blk7 SZ.p2.blk
        have hbz : Below wr.heap.size wr _ := SZ.drop1.drop1.old1
        have HBZ : Hid (Below w.heap.size w _) := Lib.hid (HBW.out.trans (hbz.mono HBW.out.size))
        have HKXZ := Lib.hid (Kd.C_below HKX.out.2 hbz)
        have HKYZ := Lib.hid (Kd.C_below HKY.out.2 hbz)
        have HKL := Lib.hid HKX.out.1
        have HA := Lib.hid SZ.blk
        have HAA := Lib.hid SZ.p2.blk
        clear SZ hbz HKX HKY
        generalize (((wr.alloc (.cells #[.int .i64 h, .slice yA ks.length yc, .bool f2, .bool f3, .string f4, .bool f5, .int .i64 f6] 30)).alloc (.cells #[.int .i64 h, .slice xA ks.length xc, .bool f2, .bool f3, .string f4, .bool f5, .int .i64 f6] 30)).drew) = wz at *
        generalize wr.heap.size + 1 = p1 at *
        generalize wr.heap.size = p0 at *
        clear HBW
        go_wp2_with fail
        go_loopw [8] (fun v8 wy => ∃ k : Nat, v8 = .int .i64 k ∧ k ≤ ks.length ∧ Hid (Below wz.heap.size wz wy)) (fun v8 _ => ks.length - (RowKit.intOf v8).toNat)
        case atStart => exact ⟨0, rfl, by omega, Lib.hid (Below.refl _ _)⟩
        case round =>
          obtain ⟨k, rfl, hk, HBY⟩ := hrel
          have ha := (HBY.out.block _ (Array.getElem?_eq_some_iff.1 HA.out).1).trans HA.out
          have haa := (HBY.out.block _ (Array.getElem?_eq_some_iff.1 HAA.out).1).trans HAA.out
          obtain ⟨r0, r1, r2, r3, r4, r5, r6, rf⟩ := blk7 ha
          obtain ⟨t0, t1, t2, t3, t4, t5, t6, tf⟩ := blk7 haa
          clear ha haa
          by_cases hkl : k < ks.length
          · have hwk := up_i hkl HKL.out
            obtain ⟨ad, e1, z0⟩ := Kd.at_string (Kd.C_below HKXZ.out HBY.out) k (by omega) (by omega)
            obtain ⟨ae, e2, z1⟩ := Kd.at_string (Kd.C_below HKYZ.out HBY.out) k (by omega) (by omega)
            subst e1 e2
            rw [Int.toNat_natCast] at z0 z1
            generalize rdOf ByteArray.empty ks (k : Int) = key at *
            go_wp2_with fail
            go_region
            go_wp2_with fail
            go_roundw
            case rel => exact ⟨k + 1, by rw [hwk], by omega, Lib.hid HBY.out.drew⟩
            case measure => rw [hwk]; simp only [RowKit.intOf, Int.toNat_natCast]; omega
          · have hke : k = ks.length := by omega
            subst hke
            go_wp2_with fail
            go_roundw
            case rel => exact ⟨i + 1, by rw [hwi], by omega, Lib.hid (HBZ.out.trans (HBY.out.mono HBZ.out.size))⟩
            case measure => rw [hwi]; simp only [RowKit.intOf, Int.toNat_natCast]; omega
    · have hie : i = xs.length := by omega
      subst hie
      go_wp2_with fail
      go_ret
      refine ⟨rfl, ?_⟩
      have := HS.out.below HBW.out
      rw [HYL.out] at this
      exact this
end Go.Sl
