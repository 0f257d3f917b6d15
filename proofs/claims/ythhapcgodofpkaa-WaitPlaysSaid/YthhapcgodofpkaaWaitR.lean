/-
  The document's answer for layer 38, by contract: Has, Drop, First, Due.
-/
import Derived.Test.YthhapcgodofpkaaWaitT
import Derived.Test.YthhapcgodofpkaaAp
import Derived.Deep.RegionLaw
namespace Go.Sl
open Go.RowKit Go.Proofs Go.Proofs.YthhapcgodofpkaaW.PrintWords
set_option linter.unusedVariables false
set_option linter.unusedSimpArgs false
set_option maxRecDepth 100000

theorem up_i {i m : Nat} (h : i < m) (hm : m ≤ 1000000) : wrap64 ((i : Int) + 1) = ((i + 1 : Nat) : Int) := by unfold wrap64; omega
/-- The cells of an element of a row of waiters. -/
theorem Sat.rW_at {w0 w : World} {A : Option Addr} {m c i : Nat} {xs : List Wr} {R : HP} (S : Sat w0 w (rW (.slice A m c) xs * R)) (h : i < xs.length) : ∃ g, A = some ⟨g, 0, none⟩ ∧
    w.cell? ⟨g, i * 7, none⟩ = some (.int .i64 xs[i].h) ∧ w.cell? ⟨g, i * 7 + 1, none⟩ = some (.slice xs[i].A xs[i].ks.length xs[i].cap) ∧ w.cell? ⟨g, i * 7 + 2, none⟩ = some (.bool xs[i].f2) ∧ w.cell? ⟨g, i * 7 + 3, none⟩ = some (.bool xs[i].f3) ∧
    w.cell? ⟨g, i * 7 + 4, none⟩ = some (.string xs[i].f4) ∧ w.cell? ⟨g, i * 7 + 5, none⟩ = some (.bool xs[i].f5) ∧ w.cell? ⟨g, i * 7 + 6, none⟩ = some (.int .i64 xs[i].f6) := by
  have key : ∀ (k : Nat) (u : Value), (xs[i].ce)[k]? = some u → ∃ g, A = some ⟨g, 0, none⟩ ∧ w.cell? ⟨g, i * 7 + k, none⟩ = some u := fun k u hu =>
    S.row_cells (i * 7 + k) u (flat_cell flatWr (List.getElem?_eq_getElem h) hu)
  obtain ⟨g, e0, h0⟩ := key 0 _ rfl
  refine ⟨g, e0, h0, ?_, ?_, ?_, ?_, ?_, ?_⟩
  all_goals
    first
    | (obtain ⟨g', e, h⟩ := key 1 _ rfl; rw [e0] at e; injection e with e; injection e with e; subst e; exact h)
    | (obtain ⟨g', e, h⟩ := key 2 _ rfl; rw [e0] at e; injection e with e; injection e with e; subst e; exact h)
    | (obtain ⟨g', e, h⟩ := key 3 _ rfl; rw [e0] at e; injection e with e; injection e with e; subst e; exact h)
    | (obtain ⟨g', e, h⟩ := key 4 _ rfl; rw [e0] at e; injection e with e; injection e with e; subst e; exact h)
    | (obtain ⟨g', e, h⟩ := key 5 _ rfl; rw [e0] at e; injection e with e; injection e with e; subst e; exact h)
    | (obtain ⟨g', e, h⟩ := key 6 _ rfl; rw [e0] at e; injection e with e; injection e with e; subst e; exact h)

theorem baInjW {a b : ByteArray} (h : a.toList = b.toList) : a = b := by
  rw [ByteArray.toList_eq, ByteArray.toList_eq] at h
  cases a; cases b
  simpa using h
/-- Does one of these have the handle? -/
def hasW (xs : List Wr) (h : Int) : Bool := xs.any fun x => decide (x.h = h)
theorem hasW_no {xs : List Wr} {h : Int} (hb : ∀ j (hj : j < xs.length), xs[j].h ≠ h) : hasW xs h = false := List.any_eq_false.2 fun x hx => by
  obtain ⟨j, hj, rfl⟩ := List.mem_iff_getElem.1 hx
  simpa using hb j hj
theorem hasW_yes {xs : List Wr} {h : Int} {i : Nat} (hi : i < xs.length) (he : xs[i].h = h) : hasW xs h = true := List.any_eq_true.2 ⟨xs[i], List.getElem_mem hi, by simpa using he⟩
/-- 'R.Has'. -/
theorem rHas {w0 w : World} {v : Value} {xs : List Wr} {h : Int} {R : HP} (hl : xs.length ≤ 1000000) (S : Sat w0 w (rW v xs * R)) :
    Calls Try.prog 19 #[v, .int .i64 h] w fun en w' => en = .returned (.bool (hasW xs h)) ∧ w' = w := by
  obtain ⟨A, c, rfl, hc, -⟩ := Sat.row_C flatWr rfl S
  have HS := Lib.hid S
  have HL := Lib.hid hl
  clear S hl hc
  go_enter Try.func19, Try.ntmps19
  go_wp2_with fail
  go_loopw [5] (fun v5 wr => ∃ i : Nat, v5 = .int .i64 i ∧ i ≤ xs.length ∧ Hid (∀ j (h' : j < xs.length), j < i → xs[j].h ≠ h) ∧ wr = w) (fun v5 _ => xs.length - (RowKit.intOf v5).toNat)
  case atStart => exact ⟨0, rfl, by omega, Lib.hid (fun j _ h => absurd h (by omega)), rfl⟩
  case round =>
    obtain ⟨i, rfl, hi, HB, rfl⟩ := hrel
    by_cases hlt : i < xs.length
    · obtain ⟨g, e1, x0, -⟩ := HS.out.rW_at hlt
      subst e1
      by_cases he : xs[i].h = h
      · have HY := Lib.hid (hasW_yes hlt he)
        rw [he] at x0
        clear he
        go_wp2_with fail
        go_ret
        exact ⟨by rw [HY.out]; rfl, rfl⟩
      · have HB2 : Hid (∀ j (h' : j < xs.length), j < i + 1 → xs[j].h ≠ h) := Lib.hid (fun j hj hji => by
          by_cases e : j = i
          · subst e; exact he
          · exact HB.out j hj (by omega))
        have hq : (xs[i].h == h) = false := by simpa using he
        generalize xs[i].h = hx at *
        have hwi := up_i hlt HL.out
        clear he
        go_wp2_with fail
        go_roundw
        case rel => exact ⟨i + 1, by rw [hwi], by omega, HB2, by trivial⟩
        case measure => rw [hwi]; simp only [RowKit.intOf, Int.toNat_natCast]; omega
    · have hie : i = xs.length := by omega
      have HN : Hid (hasW xs h = false) := Lib.hid (hasW_no fun j hj => HB.out j hj (by omega))
      subst hie
      go_wp2_with fail
      go_ret
      exact ⟨by rw [HN.out]; rfl, rfl⟩
theorem hasS_no {ks : List ByteArray} {k : ByteArray} (hb : ∀ j (hj : j < ks.length), ks[j] ≠ k) : hasS ks k = false := List.any_eq_false.2 fun x hx => by
  obtain ⟨j, hj, rfl⟩ := List.mem_iff_getElem.1 hx
  simpa using hb j hj
theorem hasS_yes {ks : List ByteArray} {k : ByteArray} {i : Nat} (hi : i < ks.length) (he : ks[i] = k) : hasS ks k = true := List.any_eq_true.2 ⟨ks[i], List.getElem_mem hi, by simpa using he⟩
/-- 'S.Has'. -/
theorem sHas {w : World} {A : Option Addr} {c : Nat} {ks : List ByteArray} {k : ByteArray} (hl : ks.length ≤ 1000000) (hC : Kd.C Kd.string w A ks.length ks) :
    Calls Try.prog 22 #[.slice A ks.length c, .string k] w fun en w' => en = .returned (.bool (hasS ks k)) ∧ w' = w := by
  have HC := Lib.hid hC
  have HL := Lib.hid hl
  clear hC hl
  go_enter Try.func22, Try.ntmps22
  go_wp2_with fail
  go_loopw [5] (fun v5 wr => ∃ i : Nat, v5 = .int .i64 i ∧ i ≤ ks.length ∧ Hid (∀ j (h' : j < ks.length), j < i → ks[j] ≠ k) ∧ wr = w) (fun v5 _ => ks.length - (RowKit.intOf v5).toNat)
  case atStart => exact ⟨0, rfl, by omega, Lib.hid (fun j _ h => absurd h (by omega)), rfl⟩
  case round =>
    obtain ⟨i, rfl, hi, HB, rfl⟩ := hrel
    by_cases hlt : i < ks.length
    · obtain ⟨ad, e1, x0⟩ := Kd.at_string HC.out i (by omega) (by omega)
      subst e1
      have hrd : rdOf ByteArray.empty ks (i : Int) = ks[i] := by unfold rdOf; simp [List.getD_eq_getElem?_getD, hlt]
      rw [hrd, Int.toNat_natCast] at x0
      by_cases he : ks[i] = k
      · have HY := Lib.hid (hasS_yes hlt he)
        rw [he] at x0
        clear he hrd
        go_wp2_with fail
        go_ret
        exact ⟨by rw [HY.out]; rfl, rfl⟩
      · have HB2 : Hid (∀ j (h' : j < ks.length), j < i + 1 → ks[j] ≠ k) := Lib.hid (fun j hj hji => by
          by_cases e : j = i
          · subst e; exact he
          · exact HB.out j hj (by omega))
        have hq : (ks[i].toList == k.toList) = false := beq_eq_false_iff_ne.2 fun e => he (baInjW e)
        clear hrd
        generalize ks[i] = hx at *
        have hwi := up_i hlt HL.out
        clear he
        go_wp2_with fail
        go_roundw
        case rel => exact ⟨i + 1, by rw [hwi], by omega, HB2, by trivial⟩
        case measure => rw [hwi]; simp only [RowKit.intOf, Int.toNat_natCast]; omega
    · have hie : i = ks.length := by omega
      have HN : Hid (hasS ks k = false) := Lib.hid (hasS_no fun j hj => HB.out j hj (by omega))
      subst hie
      go_wp2_with fail
      go_ret
      exact ⟨by rw [HN.out]; rfl, rfl⟩
/-- 'append(v, x)', x being an element of another row. -/
theorem rW_app_at {w0 w : World} {v : Value} {ys : List Wr} {x : Wr} {R : HP} (hl : ys.length < 1000000) (S : Sat w0 w (rW v ys * R)) :
    ∃ g c w', (Builtin.append_ #[27, 27] 27 #[v, .slice (some ⟨w.heap.size, 0, none⟩) 1 1]).run Try.prog (w.alloc (.cells x.ce.toArray 30)) = .ok (.slice (some ⟨g, 0, none⟩) (ys.length + 1) c) w' ∧ Sat w0 w' (rW (.slice (some ⟨g, 0, none⟩) (ys.length + 1) c) (ys ++ [x]) * R) := by
  obtain ⟨g, c, w', hr, S'⟩ := rW_app (x := x) hl (S.alloc (.cells x.ce.toArray 30)).p2
  exact ⟨g, c, w', hr, S'.p2.drop1⟩
theorem take_snoc {α : Type} {l : List α} {i : Nat} (h : i < l.length) : l.take (i + 1) = l.take i ++ [l[i]] := (List.take_append_getElem h).symm
/-- Is its time over? -/
def dueW (now : Int) (x : Wr) : Bool := decide (0 < x.f6) && decide (x.f6 ≤ now)
set_option maxHeartbeats 8000000 in
/-- 'R.Due'. -/
theorem rDue {w0 w : World} {v : Value} {xs : List Wr} {now : Int} {R : HP} (hl : xs.length ≤ 1000000) (S : Sat w0 w (rW v xs * R)) :
    Calls Try.prog 12 #[v, .int .i64 now] w fun en w' => ∃ v1 v2, en = .returned (.tuple #[v1, v2]) ∧ Sat w0 w' (rW v1 (xs.filter fun x => !dueW now x) * (rW v2 (xs.filter (dueW now)) * R)) := by
  obtain ⟨A, c, rfl, hc, -⟩ := Sat.row_C flatWr rfl S
  have HL := Lib.hid hl
  have HS : Hid (Sat w0 w (rW (.slice none 0 0) ((xs.take 0).filter fun x => !dueW now x) * (rW (.slice none 0 0) ((xs.take 0).filter (dueW now)) * (rW (.slice A xs.length c) xs * R)))) := Lib.hid ((S.row_nil _ _).row_nil _ _)
  clear S hl hc
  go_enter Try.func12, Try.ntmps12
  go_wp2_with fail
  go_loopw [6, 7, 8] (fun v6 v7 v8 wr => ∃ i : Nat, v8 = .int .i64 i ∧ i ≤ xs.length ∧ Hid (Sat w0 wr (rW v6 ((xs.take i).filter fun x => !dueW now x) * (rW v7 ((xs.take i).filter (dueW now)) * (rW (.slice A xs.length c) xs * R))))) (fun _ _ v8 _ => xs.length - (RowKit.intOf v8).toNat)
  case atStart => exact ⟨0, rfl, by omega, HS⟩
  case round =>
    clear HS
    obtain ⟨i, rfl, hi, HSr⟩ := hrel
    by_cases hlt : i < xs.length
    · have hwi := up_i hlt HL.out
      obtain ⟨g, e1, x0, x1, x2, x3, x4, x5, x6⟩ := HSr.out.p3.rW_at hlt
      subst e1
      have hle1 : ((xs.take i).filter fun x => !dueW now x).length < 1000000 := by
        have := List.length_filter_le (fun x => !dueW now x) (xs.take i)
        have := HL.out
        rw [List.length_take] at *; omega
      have hle2 : ((xs.take i).filter (dueW now)).length < 1000000 := by
        have := List.length_filter_le (dueW now) (xs.take i)
        have := HL.out
        rw [List.length_take] at *; omega
      cases hd : dueW now xs[i] with
      | true =>
        have hq : (decide (0 < xs[i].f6) && decide (xs[i].f6 ≤ now)) = true := hd
        have hd1 : decide (xs[i].f6 > 0) = true := by simp at hq; simpa using hq.1
        have hd2 : decide (xs[i].f6 ≤ now) = true := by simp at hq; simpa using hq.2
        obtain ⟨g2, c2, w2, hr, S2⟩ := rW_app_at (x := xs[i]) hle2 HSr.out.p2
        have HS2 : Hid (Sat w0 w2 (rW u6 ((xs.take (i + 1)).filter fun x => !dueW now x) * (rW (.slice (some ⟨g2, 0, none⟩) (((xs.take i).filter (dueW now)).length + 1) c2) ((xs.take (i + 1)).filter (dueW now)) * (rW (.slice (some ⟨g, 0, none⟩) xs.length c) xs * R)))) := Lib.hid (S2.p2.cong (by
          rw [take_snoc hlt, List.filter_append, List.filter_append, List.filter_cons_of_neg (by simp [hd]), List.filter_nil, List.append_nil, List.filter_cons_of_pos hd, List.filter_nil]))
        generalize ((xs.take i).filter (dueW now)).length = m2 at *
        clear hq S2 HSr hd hle1 hle2
        simp only [Wr.ce] at hr
        generalize xs[i] = x at *
        go_wp2_with (at_builtin; refine wpList_append_eq rfl _ _ _ _ rfl rfl rfl hr ?_)
        go_roundw
        case rel => exact ⟨i + 1, by rw [hwi], by omega, HS2⟩
        case measure => rw [hwi]; simp only [RowKit.intOf, Int.toNat_natCast]; omega
      | false =>
        have hq : (decide (0 < xs[i].f6) && decide (xs[i].f6 ≤ now)) = false := hd
        obtain ⟨g2, c2, w2, hr, S2⟩ := rW_app_at (x := xs[i]) hle1 HSr.out
        have HS2 : Hid (Sat w0 w2 (rW (.slice (some ⟨g2, 0, none⟩) (((xs.take i).filter fun x => !dueW now x).length + 1) c2) ((xs.take (i + 1)).filter fun x => !dueW now x) * (rW u7 ((xs.take (i + 1)).filter (dueW now)) * (rW (.slice (some ⟨g, 0, none⟩) xs.length c) xs * R)))) := Lib.hid (S2.cong (by
          rw [take_snoc hlt, List.filter_append, List.filter_append, List.filter_cons_of_pos (by simp [hd]), List.filter_nil, List.filter_cons_of_neg (by simp [hd]), List.filter_nil, List.append_nil]))
        generalize ((xs.take i).filter fun x => !dueW now x).length = m1 at *
        clear S2 HSr hd hle1 hle2
        simp only [Wr.ce] at hr
        generalize xs[i] = x at *
        by_cases h1 : 0 < x.f6
        case' pos =>
          have hd1 : decide (x.f6 > 0) = true := decide_eq_true h1
          have hd2 : decide (x.f6 ≤ now) = false := by simpa [h1] using hq
        case' neg =>
          have hd1 : decide (x.f6 > 0) = false := decide_eq_false h1
        all_goals
          clear hq h1
          go_wp2_with (at_builtin; refine wpList_append_eq rfl _ _ _ _ rfl rfl rfl hr ?_)
          go_roundw
          case rel => exact ⟨i + 1, by rw [hwi], by omega, HS2⟩
          case measure => rw [hwi]; simp only [RowKit.intOf, Int.toNat_natCast]; omega
    · have hie : i = xs.length := by omega
      subst hie
      have HS2 := Lib.hid HSr.out
      clear HSr
      go_wp2_with fail
      go_ret2
      refine ⟨_, _, rfl, ?_⟩
      have := HS2.out
      rw [List.take_length] at this
      exact this.p3.drop1
/-- None. -/
def zW : Wr := ⟨0, [], none, 0, false, false, ⟨#[]⟩, false, 0⟩
/-- The one that went: the last that has the handle. -/
def goneW (xs : List Wr) (h : Int) : Wr := ((xs.filter fun x => decide (x.h = h)).getLast?).getD zW
def dropW (xs : List Wr) (h : Int) : List Wr := xs.filter fun x => !decide (x.h = h)
theorem results_tct {P : Program} {fn : Func} {p u v : Tmp} {ty : TypeId} (h : fn.results = #[.tmp u, .cell p ty, .tmp v]) (tmps : Array Value) (w : World) (g : Nat) (t : TypeId) (cs : Array Value) (fr : Nat × Nat) (d : TypeDesc)
    (hp : tmps.getD p undef = .pointer (some ⟨g, 0, none⟩)) (hg : w.heap[g]? = some (.cells cs t fr))
    (hu : P.underlying ty = some d) (hd : (match d with | .struct _ | .array _ _ => true | _ => false) = true) (hi : (P.info? ty).map (·.size) = some cs.size) :
    (results fn tmps).run P w = .ok (.tuple #[tmps.getD u undef, .agg cs, tmps.getD v undef]) w := by
  have hp' : tmps[p]?.getD undef = .pointer (some ⟨g, 0, none⟩) := by simpa using hp
  simp [results, h, hp', asAddr, run_loadVar_row w g t ty cs fr d hg hu hd hi]
set_option maxHeartbeats 8000000 in
/-- 'R.Drop'. -/
theorem rDropW {w0 w : World} {v : Value} {xs : List Wr} {h : Int} {R : HP} (hl : xs.length ≤ 1000000) (S : Sat w0 w (rW v xs * R)) :
    Calls Try.prog 10 #[v, .int .i64 h] w fun en w' => ∃ v1, en = .returned (.tuple #[v1, .agg (goneW xs h).ce.toArray, .bool (decide ((dropW xs h).length < xs.length))]) ∧ Sat w0 w' (rW v1 (dropW xs h) * R) := by
  obtain ⟨A, c, rfl, hc, -⟩ := Sat.row_C flatWr rfl S
  have HL := Lib.hid hl
  obtain ⟨b, hb⟩ : ∃ b, b = w.heap.size := ⟨_, rfl⟩
  have S2 := (S.alloc (.cells zW.ce.toArray 30)).alloc (.cells zW.ce.toArray 30)
  simp only [World.size_alloc] at S2
  rw [← hb] at S2
  have HS : Hid (Sat w0 _ (rW (.slice none 0 0) (dropW (xs.take 0) h) * (pts (b + 1) (.cells (goneW (xs.take 0) h).ce.toArray 30) * (pts b (.cells zW.ce.toArray 30) * (rW (.slice A xs.length c) xs * R))))) := Lib.hid (S2.row_nil _ _)
  have HB := Lib.hid hb
  clear S S2 hl hc hb
  go_enter Try.func10, Try.ntmps10
  go_wp2_with fail
  rw [← HB.out]
  go_loopw [7, 9] (fun v7 v9 wr => ∃ i : Nat, v9 = .int .i64 i ∧ i ≤ xs.length ∧ Hid (Sat w0 wr (rW v7 (dropW (xs.take i) h) * (pts (b + 1) (.cells (goneW (xs.take i) h).ce.toArray 30) * (pts b (.cells zW.ce.toArray 30) * (rW (.slice A xs.length c) xs * R)))))) (fun _ v9 _ => xs.length - (RowKit.intOf v9).toNat)
  case atStart => exact ⟨0, rfl, by omega, HS⟩
  case round =>
    clear HS
    obtain ⟨i, rfl, hi, HSr⟩ := hrel
    by_cases hlt : i < xs.length
    · have hwi := up_i hlt HL.out
      obtain ⟨g, e1, x0, x1, x2, x3, x4, x5, x6⟩ := HSr.out.p4.rW_at hlt
      subst e1
      by_cases he : xs[i].h = h
      · have e1 : dropW (xs.take (i + 1)) h = dropW (xs.take i) h := by unfold dropW; rw [take_snoc hlt, List.filter_append, List.filter_cons_of_neg (by simp [he]), List.filter_nil, List.append_nil]
        have e2 : goneW (xs.take (i + 1)) h = xs[i] := by unfold goneW; rw [take_snoc hlt, List.filter_append, List.filter_cons_of_pos (by simpa using he), List.filter_nil]; simp
        obtain ⟨a0, a1, a2, a3, a4, a5, a6, af⟩ := blk7 HSr.out.p2.blk
        have S3 := ((((((HSr.out.p2.setCell (i := 0) (.int .i64 xs[i].h)).setCell (i := 1) (.slice xs[i].A xs[i].ks.length xs[i].cap)).setCell (i := 2) (.bool xs[i].f2)).setCell (i := 3) (.bool xs[i].f3)).setCell (i := 4) (.string xs[i].f4)).setCell (i := 5) (.bool xs[i].f5)).setCell (i := 6) (.int .i64 xs[i].f6)
        have HS3 : Hid (Sat w0 _ (rW u7 (dropW (xs.take (i + 1)) h) * (pts (b + 1) (.cells (goneW (xs.take (i + 1)) h).ce.toArray 30) * (pts b (.cells zW.ce.toArray 30) * (rW (.slice (some ⟨g, 0, none⟩) xs.length c) xs * R))))) := Lib.hid (by rw [e1, e2]; exact S3.p2)
        clear S3 HSr e1 e2
        rw [he] at x0 HS3
        go_wp2_with fail
        go_roundw
        case rel => exact ⟨i + 1, by rw [hwi], by omega, HS3⟩
        case measure => rw [hwi]; simp only [RowKit.intOf, Int.toNat_natCast]; omega
      · have e2 : goneW (xs.take (i + 1)) h = goneW (xs.take i) h := by unfold goneW; rw [take_snoc hlt, List.filter_append, List.filter_cons_of_neg (by simpa using he), List.filter_nil, List.append_nil]
        have hle1 : (dropW (xs.take i) h).length < 1000000 := by
          have := List.length_filter_le (fun x => !decide (x.h = h)) (xs.take i)
          have := HL.out
          unfold dropW
          rw [List.length_take] at *; omega
        obtain ⟨g2, c2, w2, hr, S2⟩ := rW_app_at (x := xs[i]) hle1 HSr.out
        have HS2 : Hid (Sat w0 w2 (rW (.slice (some ⟨g2, 0, none⟩) ((dropW (xs.take i) h).length + 1) c2) (dropW (xs.take (i + 1)) h) * (pts (b + 1) (.cells (goneW (xs.take (i + 1)) h).ce.toArray 30) * (pts b (.cells zW.ce.toArray 30) * (rW (.slice (some ⟨g, 0, none⟩) xs.length c) xs * R))))) := Lib.hid (S2.cong (by
          rw [e2]
          unfold dropW
          rw [take_snoc hlt, List.filter_append, List.filter_cons_of_pos (by simpa using he), List.filter_nil]))
        have hq : (xs[i].h == h) = false := by simpa using he
        generalize (dropW (xs.take i) h).length = m1 at *
        clear S2 HSr hle1 e2 he
        simp only [Wr.ce] at hr
        generalize xs[i] = x at *
        go_wp2_with (at_builtin; refine wpList_append_eq rfl _ _ _ _ rfl rfl rfl hr ?_)
        go_roundw
        case rel => exact ⟨i + 1, by rw [hwi], by omega, HS2⟩
        case measure => rw [hwi]; simp only [RowKit.intOf, Int.toNat_natCast]; omega
    · have hie : i = xs.length := by omega
      subst hie
      rw [List.take_length] at HSr
      have S1 := HSr.out
      obtain ⟨A1, c1, rfl, -, -⟩ := Sat.row_C flatWr rfl S1
      obtain ⟨a0, a1, a2, a3, a4, a5, a6, af⟩ := blk7 S1.p2.blk
      obtain ⟨d0, d1, d2, d3, d4, d5, d6, df⟩ := blk7 S1.p3.blk
      have S3 := ((((((S1.p3.setCell (i := 0) (.int .i64 (goneW xs h).h)).setCell (i := 1) (.slice (goneW xs h).A (goneW xs h).ks.length (goneW xs h).cap)).setCell (i := 2) (.bool (goneW xs h).f2)).setCell (i := 3) (.bool (goneW xs h).f3)).setCell (i := 4) (.string (goneW xs h).f4)).setCell (i := 5) (.bool (goneW xs h).f5)).setCell (i := 6) (.int .i64 (goneW xs h).f6)
      have HS3 : Hid (Sat w0 _ (rW (.slice A1 (dropW xs h).length c1) (dropW xs h) * R)) := Lib.hid (S3.drew.drop1.p2.drop1.p2.drop1)
      have HBK := Lib.hid S3.drew.blk
      obtain ⟨y, hy⟩ : ∃ y, y = goneW xs h := ⟨_, rfl⟩
      have HY := Lib.hid hy
      rw [← hy] at a0 a1 a2 a3 a4 a5 a6 HS3 HBK
      have hdc : decide (((dropW xs h).length : Int) < (xs.length : Int)) = decide ((dropW xs h).length < xs.length) := by simp
      clear S1 S3 HSr hy
      go_wp2_with fail
      go_region
      all_goals
        go_wp2_with fail
        refine bodyPost_ret (results_tct rfl _ _ b 30 _ (0, 0) _ rfl HBK.out Try.underlying30 rfl wsize) rfl ?_
        exact ⟨_, by rw [← HY.out]; rfl, HS3.out⟩
end Go.Sl
