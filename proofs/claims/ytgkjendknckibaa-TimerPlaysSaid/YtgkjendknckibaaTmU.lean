/-
  The contracts of package timer's functions: up, down.
-/
import Derived.Test.YtgkjendknckibaaTmS
import Derived.Test.YtgkjendknckibaaTmH
namespace Go.Sl
open Go.RowKit Go.Proofs Go.Proofs.YtgkjendknckibaaW.PrintWords Go.Proofs.Ytgkjendknckibaa.PTim
set_option linter.unusedVariables false
set_option linter.unusedSimpArgs false
set_option maxRecDepth 100000
/-- What up leaves, in memory. -/
def UpPost (w0 : World) (o : Nat) (hs : List Tm) (i : Nat) (R : HP) (w' : World) : Prop := ∃ hs' i', UpTo hs hs' i i' ∧ PO hs' i' ∧ Sat w0 w' (tmr o hs' * R)
set_option maxHeartbeats 4000000 in
/-- 'up'. -/
theorem tmUp {w0 w : World} {o i : Nat} {hs : List Tm} {R : HP} (hi : i < hs.length) (hb : HB hs i) (S : Sat w0 w (tmr o hs * R)) :
    Calls Try.prog 43 #[pt o, .int .i64 i] w fun en w' => en = .returned (.tuple #[]) ∧ UpPost w0 o hs i R w' := by
  have HS := Lib.hid S
  have HU : Hid (UpTo hs hs i i) := Lib.hid ⟨.refl _, hb, hi, rfl⟩
  obtain ⟨_, _, hok, -⟩ := S.tm_open
  have hlen := hok.len
  clear S hb hok
  go_enter Try.func43, Try.ntmps43
  go_wp2_with fail
  go_loopw [1] (fun v1 wr => ∃ q : List Tm × Nat, v1 = .int .i64 q.2 ∧ Hid (UpTo hs q.1 i q.2) ∧ Hid (Sat w0 wr (tmr o q.1 * R))) (fun v1 _ => (RowKit.intOf v1).toNat)
  case atStart => exact ⟨(hs, i), rfl, HU, HS⟩
  case round =>
    clear HS HU
    obtain ⟨⟨hs', i'⟩, rfl, HU, HSi⟩ := hrel
    simp only at HU HSi
    have hlt := HU.out.lt
    have hln := HU.out.perm.length_eq
    cases i' with
    | zero =>
      have HP0 : Hid (PO hs' 0) := Lib.hid (fun h => absurd h (by omega))
      go_wp2_with fail
      go_end0
      exact ⟨rfl, hs', 0, HU.out, HP0.out, HSi.out⟩
    | succ j =>
      have hpe : (((j + 1 : Nat) : Int) - 1) / 2 = ((j / 2 : Nat) : Int) := by omega
      have hpe2 : (j : Int) / 2 = ((j / 2 : Nat) : Int) := by omega
      have hp : j / 2 < hs'.length := by omega
      have hgi : ga hs' (j + 1) = hs'[j + 1] := getD_at hlt
      have hgp : ga hs' (par (j + 1)) = hs'[j / 2] := by show ga hs' ((j + 1 - 1) / 2) = _; rw [Nat.add_sub_cancel]; exact getD_at hp
      have HPE := Lib.hid hpe
      have HPE2 := Lib.hid hpe2
      clear hpe hpe2
      have hpar : par (j + 1) = j / 2 := by unfold par; rw [Nat.add_sub_cancel]
      cases hb : ltT hs'[j + 1] hs'[j / 2] with
      | true =>
        have hb2 := HU.out.step (by omega) (by rw [hgi, hgp]; exact hb)
        rw [hpar] at hb2
        have HB2 := Lib.hid hb2
        have HBB := Lib.hid hb
        clear hgi hgp hb hb2 hpar
        go_wp2_with fail
        rw [HPE2.out]
        refine (tmAhead hlt hp HSi.out).mono ?_
        rintro en w1 ⟨rfl, S1⟩
        rw [HBB.out]
        have HS1 := Lib.hid S1
        clear S1 HSi
        go_wp2_with fail
        rw [HPE2.out]
        refine (tmSwap hlt hp HS1.out).mono ?_
        rintro en w2 ⟨rfl, S2⟩
        have HS2 := Lib.hid S2
        clear S2 HS1
        go_wp2_with fail
        go_roundw
        case rel => exact ⟨(sw hs' (j + 1) (j / 2), j / 2), by first | rfl | (simp only; rw [HPE2.out]) | (simp; done), HB2, HS2⟩
        case measure => simp [RowKit.intOf]; omega
      | false =>
        have HPO : Hid (PO hs' (j + 1)) := Lib.hid (fun _ => by rw [hgi, hgp]; exact hb)
        have HBB := Lib.hid hb
        clear hgi hgp hb hpar
        go_wp2_with fail
        rw [HPE2.out]
        refine (tmAhead hlt hp HSi.out).mono ?_
        rintro en w1 ⟨rfl, S1⟩
        rw [HBB.out]
        have HS1 := Lib.hid S1
        clear S1 HSi
        go_wp2_with fail
        go_end0
        exact ⟨rfl, hs', j + 1, HU.out, HPO.out, HS1.out⟩
theorem betterCells {w0 w : World} {tb fb o : Nat} {f : Int} {t1 t2 : TypeId} {Y : HP} (S : Sat w0 w (pts tb (.cells #[pt o] t1 (0, 0)) * (pts fb (.cells #[.int .i64 f] t2 (0, 0)) * Y))) :
    w.cell? ⟨tb, 0, none⟩ = some (pt o) ∧ w.cell? ⟨fb, 0, none⟩ = some (.int .i64 f) := ⟨(blk1 S.blk).1, (blk1 S.p2.blk).1⟩
def betB (hs : List Tm) (k f : Nat) : Bool := decide (k < hs.length) && ltT (ga hs k) (ga hs f)
set_option maxHeartbeats 4000000 in
/-- 'better'. -/
theorem tmBetter {w0 w : World} {tb fb o k f : Nat} {hs : List Tm} {R : HP} (hf : f < hs.length) (S : Sat w0 w (pts tb (.cells #[pt o] 25 (0, 0)) * (pts fb (.cells #[.int .i64 f] 3 (0, 0)) * (tmr o hs * R)))) :
    Calls Try.prog 58 #[.int .i64 k, pt tb, pt fb] w fun en w' => en = .returned (.bool (betB hs k f)) ∧ Sat w0 w' (pts tb (.cells #[pt o] 25 (0, 0)) * (pts fb (.cells #[.int .i64 f] 3 (0, 0)) * (tmr o hs * R))) := by
  have HS := Lib.hid S
  obtain ⟨b0, b1⟩ := betterCells S
  obtain ⟨v, mb, hok, S1⟩ := S.p3.tm_open
  obtain ⟨A, cap, rfl⟩ : ∃ A cap, v = .slice A hs.length cap := by
    obtain ⟨_, h⟩ := S1.p2.row_open
    rcases h with ⟨_, h0, _⟩ | ⟨g, cap, cur, rfl, _⟩
    · omega
    · exact ⟨_, _, rfl⟩
  obtain ⟨c0, c1, -⟩ := blk2 S1.blk
  clear S S1 hok
  by_cases hk : k < hs.length
  · have hk1 : decide ((k : Int) < hs.length) = true := decide_eq_true (by omega)
    have hk2 : decide (k < hs.length) = true := decide_eq_true hk
    have hres : betB hs k f = ltT hs[k] hs[f] := by unfold betB ga; rw [hk2, getD_at hk, getD_at hf]; rfl
    rw [hres]
    have HK := Lib.hid hk
    have HF := Lib.hid hf
    clear hres
    go_enter Try.func58, Try.ntmps58
    go_wp2_with fail
    refine (tmAhead HK.out HF.out HS.out.p3).mono ?_
    rintro en w1 ⟨rfl, S1⟩
    have HS1 := Lib.hid S1
    clear S1 HS
    go_wp2_with fail
    go_ret
    exact ⟨rfl, HS1.out.cong (by ac_rfl)⟩
  · have hk1 : decide ((k : Int) < hs.length) = false := decide_eq_false (by omega)
    have hk2 : decide (k < hs.length) = false := decide_eq_false hk
    have hres : betB hs k f = false := by unfold betB; rw [hk2]; rfl
    rw [hres]
    clear hres
    go_enter Try.func58, Try.ntmps58
    go_wp2_with fail
    go_ret
    exact ⟨rfl, HS.out⟩
/-- What down has, at i. -/
structure DnTo (hs hs' : List Tm) (i : Nat) : Prop where
  perm : hs'.Perm hs
  hb : HB hs' i
  po : PO hs' i
  lt : i < hs'.length
theorem kids {c i : Nat} (h : par c = i) (h0 : 0 < c) : c = 2 * i + 1 ∨ c = 2 * i + 2 := by unfold par at h; omega
/-- Where a round of down goes: nowhere (a heap), or to a child. -/
def goesTo (hs : List Tm) (i : Nat) : Nat :=
  let f := if betB hs (2 * i + 1) i then 2 * i + 1 else i
  if betB hs (2 * i + 2) f then 2 * i + 2 else f
theorem betB_true {hs : List Tm} {k f : Nat} (h : betB hs k f = true) : k < hs.length ∧ ltT (ga hs k) (ga hs f) = true := by
  unfold betB at h
  simpa using h
theorem betB_false {hs : List Tm} {k f : Nat} (h : betB hs k f = false) : k < hs.length → ltT (ga hs k) (ga hs f) = false := by
  unfold betB at h
  intro hk
  simpa [hk] using h
theorem DnTo.stay {hs hs' : List Tm} {i : Nat} (h : DnTo hs hs' i) (h1 : betB hs' (2 * i + 1) i = false) (h2 : betB hs' (2 * i + 2) i = false) : Heap hs' :=
  h.hb.heap h.po fun c hc h0 hp => by
    rcases kids hp h0 with rfl | rfl
    · exact betB_false h1 hc
    · exact betB_false h2 hc
theorem DnTo.left {hs hs' : List Tm} {i : Nat} (h : DnTo hs hs' i) (h1 : betB hs' (2 * i + 1) i = true) (h2 : betB hs' (2 * i + 2) (2 * i + 1) = false) : DnTo hs (sw hs' i (2 * i + 1)) (2 * i + 1) := by
  obtain ⟨hc, hl⟩ := betB_true h1
  have := h.hb.downstep h.lt hc (by unfold par; omega) (by omega) hl (fun d hd h0 hp => by
    rcases kids hp h0 with rfl | rfl
    · exact ltT_irrefl _
    · exact betB_false h2 hd) h.po
  exact ⟨(sw_perm h.lt hc).trans h.perm, this.1, this.2, by rw [sw_length]; exact hc⟩
theorem DnTo.right {hs hs' : List Tm} {i : Nat} (h : DnTo hs hs' i) {f : Nat} (hf : f = if betB hs' (2 * i + 1) i then 2 * i + 1 else i) (h2 : betB hs' (2 * i + 2) f = true) : DnTo hs (sw hs' i (2 * i + 2)) (2 * i + 2) := by
  obtain ⟨hc, hl⟩ := betB_true h2
  have hbest : ltT (ga hs' (2 * i + 2)) (ga hs' i) = true ∧ (2 * i + 1 < hs'.length → ltT (ga hs' (2 * i + 1)) (ga hs' (2 * i + 2)) = false) := by
    cases h1 : betB hs' (2 * i + 1) i with
    | true =>
      rw [h1, if_pos rfl] at hf
      subst hf
      exact ⟨ltT_trans hl (betB_true h1).2, fun _ => lt_asymm' hl⟩
    | false =>
      rw [h1, if_neg (by decide)] at hf
      subst hf
      exact ⟨hl, fun hk => not_of_lt hl (betB_false h1 hk)⟩
  have := h.hb.downstep h.lt hc (by unfold par; omega) (by omega) hbest.1 (fun d hd h0 hp => by
    rcases kids hp h0 with rfl | rfl
    · exact hbest.2 hd
    · exact ltT_irrefl _) h.po
  exact ⟨(sw_perm h.lt hc).trans h.perm, this.1, this.2, by rw [sw_length]; exact hc⟩
def DnPost (w0 : World) (o : Nat) (hs : List Tm) (R : HP) (w' : World) : Prop := ∃ hs', hs'.Perm hs ∧ Heap hs' ∧ Sat w0 w' (tmr o hs' * R)
set_option maxHeartbeats 8000000 in
/-- 'down'. -/
theorem tmDown {w0 w : World} {o i : Nat} {hs : List Tm} {R : HP} (hi : i < hs.length) (hb : HB hs i) (hp : PO hs i) (S : Sat w0 w (tmr o hs * R)) :
    Calls Try.prog 44 #[pt o, .int .i64 i] w fun en w' => en = .returned (.tuple #[]) ∧ DnPost w0 o hs R w' := by
  have HD : Hid (DnTo hs hs i) := Lib.hid ⟨.refl _, hb, hp, hi⟩
  obtain ⟨_, _, hok, -⟩ := S.tm_open
  have hlen := hok.len
  obtain ⟨tb, htb⟩ : ∃ tb, tb = w.heap.size := ⟨_, rfl⟩
  have S1 := S.alloc (.cells #[pt o] 25)
  rw [← htb] at S1
  have HS := Lib.hid S1
  have HTB := Lib.hid htb
  clear S S1 hb hp hok htb
  go_enter Try.func44, Try.ntmps44
  go_wp2_with fail
  rw [← HTB.out]
  go_loopw [1] (fun v1 wr => ∃ q : List Tm × Nat, v1 = .int .i64 q.2 ∧ Hid (DnTo hs q.1 q.2) ∧ Hid (Sat w0 wr (pts tb (.cells #[pt o] 25 (0, 0)) * (tmr o q.1 * R)))) (fun v1 _ => hs.length - (RowKit.intOf v1).toNat)
  case atStart => exact ⟨(hs, i), rfl, HD, HS⟩
  case round =>
    clear HS HD HTB
    obtain ⟨⟨hs', i'⟩, rfl, HD, HSi⟩ := hrel
    simp only at HD HSi
    have hlt := HD.out.lt
    have hln := HD.out.perm.length_eq
    obtain ⟨fb, hfb⟩ : ∃ fb, fb = wr.heap.size := ⟨_, rfl⟩
    have S1 := (HSi.out.alloc (.cells #[.int .i64 i'] 3)).p2
    rw [← hfb] at S1
    have HS1 := Lib.hid S1
    have HFB := Lib.hid hfb
    have e1 : 2 * (i' : Int) + 1 = ((2 * i' + 1 : Nat) : Int) := by omega
    have e2 : 2 * (i' : Int) + 2 = ((2 * i' + 2 : Nat) : Int) := by omega
    have E1 := Lib.hid e1
    have E2 := Lib.hid e2
    clear S1 hfb e1 e2 HSi
    go_wp2_with fail
    rw [← HFB.out, E1.out]
    refine (tmBetter (k := 2 * i' + 1) (f := i') hlt HS1.out).mono ?_
    rintro en w1 ⟨rfl, S2⟩
    clear HS1 HFB
    cases b1 : betB hs' (2 * i' + 1) i' with
    | true =>
      have HB1 := Lib.hid b1
      have hf1 := (betB_true b1).1
      clear b1
      have fx := (blk1 S2.p2.blk).2
      have x0 := (blk1 S2.p2.blk).1
      have HT := Lib.hid (S2.p2.setCell (i := 0) (.int .i64 (2 * (i' : Int) + 1)))
      clear S2
      go_upto_region 5 with (fail)
      refine gen_w HT.out ?_
      clear HT x0 fx
      intro w2 T0
      have S4 : Sat w0 w2 (pts tb (.cells #[pt o] 25 (0, 0)) * (pts fb (.cells #[.int .i64 (2 * i' + 1 : Nat)] 3 (0, 0)) * (tmr o hs' * R))) := by rw [← E1.out]; exact T0.p2
      clear T0
      have HS4 := Lib.hid S4
      clear S4
      go_wp2_with fail
      rw [E2.out]
      refine (tmBetter (k := 2 * i' + 2) (f := 2 * i' + 1) (hf1) HS4.out).mono ?_
      rintro en w3 ⟨rfl, S4⟩
      clear HS4
      cases b2 : betB hs' (2 * i' + 2) (2 * i' + 1) with
      | true =>
        have HB2 := Lib.hid b2
        clear b2
        have fx := (blk1 S4.p2.blk).2
        have x0 := (blk1 S4.p2.blk).1
        have HT := Lib.hid (S4.p2.setCell (i := 0) (.int .i64 (2 * (i' : Int) + 2)))
        clear S4
        go_upto_region 7 with (fail)
        refine gen_w HT.out ?_
        clear HT x0 fx
        intro w4 T0
        have S5 : Sat w0 w4 (pts tb (.cells #[pt o] 25 (0, 0)) * (pts fb (.cells #[.int .i64 (2 * i' + 2 : Nat)] 3 (0, 0)) * (tmr o hs' * R))) := by rw [← E2.out]; exact T0.p2
        clear T0
        have HDN := Lib.hid (HD.out.right (f := 2 * i' + 1) (by rw [HB1.out]; rfl) HB2.out)
        have hcl : 2 * i' + 2 < hs'.length := ((betB_true HB2.out).1)
        have hcn : (((2 * i' + 2 : Nat) : Int) == (i' : Int)) = false := beq_eq_false_iff_ne.2 (by omega)
        obtain ⟨y0, z0⟩ := betterCells S5
        have HS5 := Lib.hid S5
        clear S5
        go_wp2_with fail
        refine (tmSwap hlt hcl HS5.out.p3).mono ?_
        rintro en w5 ⟨rfl, S6⟩
        clear y0 z0
        obtain ⟨y0, z0⟩ := betterCells (S6.p3.p3.cong (B := pts tb (.cells #[pt o] 25 (0, 0)) * (pts fb (.cells #[.int .i64 (2 * i' + 2 : Nat)] 3 (0, 0)) * (tmr o (sw hs' i' (2 * i' + 2)) * R))) (by ac_rfl))
        have HS6 := Lib.hid (S6.p3.drop1.cong (B := pts tb (.cells #[pt o] 25 (0, 0)) * (tmr o (sw hs' i' (2 * i' + 2)) * R)) (by ac_rfl))
        clear S6 HS5 hcn
        go_wp2_with fail
        go_roundw
        case rel => exact ⟨(sw hs' i' (2 * i' + 2), 2 * i' + 2), rfl, HDN, HS6⟩
        case measure => simp [RowKit.intOf]; omega
      | false =>
        have HB2 := Lib.hid b2
        clear b2
        have S5 := S4
        clear S4
        have HDN := Lib.hid (HD.out.left HB1.out HB2.out)
        have hcl : 2 * i' + 1 < hs'.length := ((betB_true HB1.out).1)
        have hcn : (((2 * i' + 1 : Nat) : Int) == (i' : Int)) = false := beq_eq_false_iff_ne.2 (by omega)
        obtain ⟨y0, z0⟩ := betterCells S5
        have HS5 := Lib.hid S5
        clear S5
        go_wp2_with fail
        refine (tmSwap hlt hcl HS5.out.p3).mono ?_
        rintro en w5 ⟨rfl, S6⟩
        clear y0 z0
        obtain ⟨y0, z0⟩ := betterCells (S6.p3.p3.cong (B := pts tb (.cells #[pt o] 25 (0, 0)) * (pts fb (.cells #[.int .i64 (2 * i' + 1 : Nat)] 3 (0, 0)) * (tmr o (sw hs' i' (2 * i' + 1)) * R))) (by ac_rfl))
        have HS6 := Lib.hid (S6.p3.drop1.cong (B := pts tb (.cells #[pt o] 25 (0, 0)) * (tmr o (sw hs' i' (2 * i' + 1)) * R)) (by ac_rfl))
        clear S6 HS5 hcn
        go_wp2_with fail
        go_roundw
        case rel => exact ⟨(sw hs' i' (2 * i' + 1), 2 * i' + 1), rfl, HDN, HS6⟩
        case measure => simp [RowKit.intOf]; omega
    | false =>
      have HB1 := Lib.hid b1
      clear b1
      have S4 := S2
      clear S2
      have HS4 := Lib.hid S4
      clear S4
      go_wp2_with fail
      rw [E2.out]
      refine (tmBetter (k := 2 * i' + 2) (f := i') (hlt) HS4.out).mono ?_
      rintro en w3 ⟨rfl, S4⟩
      clear HS4
      cases b2 : betB hs' (2 * i' + 2) (i') with
      | true =>
        have HB2 := Lib.hid b2
        clear b2
        have fx := (blk1 S4.p2.blk).2
        have x0 := (blk1 S4.p2.blk).1
        have HT := Lib.hid (S4.p2.setCell (i := 0) (.int .i64 (2 * (i' : Int) + 2)))
        clear S4
        go_upto_region 7 with (fail)
        refine gen_w HT.out ?_
        clear HT x0 fx
        intro w4 T0
        have S5 : Sat w0 w4 (pts tb (.cells #[pt o] 25 (0, 0)) * (pts fb (.cells #[.int .i64 (2 * i' + 2 : Nat)] 3 (0, 0)) * (tmr o hs' * R))) := by rw [← E2.out]; exact T0.p2
        clear T0
        have HDN := Lib.hid (HD.out.right (f := i') (by rw [HB1.out]; rfl) HB2.out)
        have hcl : 2 * i' + 2 < hs'.length := ((betB_true HB2.out).1)
        have hcn : (((2 * i' + 2 : Nat) : Int) == (i' : Int)) = false := beq_eq_false_iff_ne.2 (by omega)
        obtain ⟨y0, z0⟩ := betterCells S5
        have HS5 := Lib.hid S5
        clear S5
        go_wp2_with fail
        refine (tmSwap hlt hcl HS5.out.p3).mono ?_
        rintro en w5 ⟨rfl, S6⟩
        clear y0 z0
        obtain ⟨y0, z0⟩ := betterCells (S6.p3.p3.cong (B := pts tb (.cells #[pt o] 25 (0, 0)) * (pts fb (.cells #[.int .i64 (2 * i' + 2 : Nat)] 3 (0, 0)) * (tmr o (sw hs' i' (2 * i' + 2)) * R))) (by ac_rfl))
        have HS6 := Lib.hid (S6.p3.drop1.cong (B := pts tb (.cells #[pt o] 25 (0, 0)) * (tmr o (sw hs' i' (2 * i' + 2)) * R)) (by ac_rfl))
        clear S6 HS5 hcn
        go_wp2_with fail
        go_roundw
        case rel => exact ⟨(sw hs' i' (2 * i' + 2), 2 * i' + 2), rfl, HDN, HS6⟩
        case measure => simp [RowKit.intOf]; omega
      | false =>
        have HHP := Lib.hid (HD.out.stay HB1.out b2)
        obtain ⟨y0, z0⟩ := betterCells S4
        have HS5 := Lib.hid S4.drop1.drop1
        clear S4 b2
        go_wp2_with fail
        refine bodyPost_ret (results_none rfl _ _ _) rfl ?_
        exact ⟨rfl, hs', HD.out.perm, HHP.out, HS5.out⟩
end Go.Sl
