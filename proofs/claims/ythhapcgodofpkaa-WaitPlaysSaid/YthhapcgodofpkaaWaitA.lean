/-
  The contract of package wait's Add.
-/
import Derived.Test.YthhapcgodofpkaaWait
namespace Go.Sl
open Go.RowKit Go.Proofs Go.Proofs.YthhapcgodofpkaaW.PrintWords
set_option linter.unusedVariables false
set_option linter.unusedSimpArgs false
set_option maxRecDepth 100000

/-- What K says of memory lets a slice be read. -/
def Reads (w0 : World) (K : HP) (ad : Addr) (ks : List ByteArray) : Prop := ∀ (w : World) (Y : HP), Sat w0 w (K * Y) → Kd.C Kd.string w (some ad) ks.length ks

/-- 'Add', of nothing. -/
theorem wtAdd_none {w0 w : World} {r : Nat} {A : Option Addr} {c : Nat} {h f6 : Int} {f2 f3 f5 : Bool} {f4 : ByteArray} {R : HP} (S : Sat w0 w R) :
    Calls Try.prog 7 #[pt r, .agg #[.int .i64 h, .slice A 0 c, .bool f2, .bool f3, .string f4, .bool f5, .int .i64 f6]] w fun en w' => en = .returned (.bool false) ∧ Sat w0 w' R := by
  have HS := Lib.hid (S.alloc (.cells #[.int .i64 h, .slice A 0 c, .bool f2, .bool f3, .string f4, .bool f5, .int .i64 f6] 30)).drop1
  clear S
  go_enter Try.func7, Try.ntmps7
  go_wp2_with fail
  go_ret
  exact ⟨rfl, HS.out⟩
/-- 'Add', of one that waits. -/
theorem wtAdd_old {w0 w : World} {r : Nat} {ps : List Pl} {n : Int} {ad : Addr} {c m : Nat} {h f6 : Int} {f2 f3 f5 : Bool} {f4 : ByteArray} {R : HP} (h0 : 0 < m) (hh : hasH ps h = true) (S : Sat w0 w (wt r ps n * R)) :
    Calls Try.prog 7 #[pt r, .agg #[.int .i64 h, .slice (some ad) m c, .bool f2, .bool f3, .string f4, .bool f5, .int .i64 f6]] w fun en w' => en = .returned (.bool false) ∧ Sat w0 w' (wt r ps n * R) := by
  have HS := Lib.hid (S.alloc (.cells #[.int .i64 h, .slice (some ad) m c, .bool f2, .bool f3, .string f4, .bool f5, .int .i64 f6] 30)).p2
  have HH := Lib.hid hh
  clear S hh
  have hm : ¬ (m : Int) = 0 := by omega
  have hm2 : ¬ m = 0 := by omega
  go_enter Try.func7, Try.ntmps7
  go_wp2_with fail
  refine (wtHas h HS.out).mono ?_
  rintro en w1 ⟨rfl, S1⟩
  rw [HH.out]
  have HS1 := Lib.hid S1.p2.drop1
  clear HS S1
  go_wp2_with fail
  go_ret
  exact ⟨rfl, HS1.out⟩
/-- What the keys' maps have when one that comes has been laid under its first i keys. -/
def addF (ps : List Pl) (ks : List ByteArray) (c h : Int) (i : Nat) : KF := fun k => keyOf ps k ++ if hasS (ks.take i) k then [(c, .int .i64 h)] else []
theorem hasS_iff {ks : List ByteArray} {k : ByteArray} : hasS ks k = true ↔ k ∈ ks := ⟨fun h => by
  obtain ⟨x, hx, e⟩ := List.any_eq_true.1 h
  simp only [decide_eq_true_eq] at e
  exact e ▸ hx, fun h => List.any_eq_true.2 ⟨k, h, by simp⟩⟩
theorem hasS_take {ks : List ByteArray} {i : Nat} (hi : i < ks.length) (k : ByteArray) : hasS (ks.take (i + 1)) k = (hasS (ks.take i) k || decide (ks[i] = k)) := by
  unfold hasS
  rw [List.take_succ_eq_append_getElem hi, List.any_append]
  simp
theorem addF_zero (ps : List Pl) (ks : List ByteArray) (c h : Int) : addF ps ks c h 0 = keyOf ps := by
  funext k; simp [addF, hasS]
theorem addF_all (ps : List Pl) (p : Pl) : addF ps p.ks p.c p.h p.ks.length = keyOf (ps ++ [p]) := by
  funext k
  unfold addF keyOf
  rw [List.take_length, List.filter_append, List.map_append]
  congr 1
  cases hk : hasS p.ks k <;> simp [hk]
theorem addF_off {ps : List Pl} {ks : List ByteArray} {c h : Int} {i : Nat} (hi : i < ks.length) {k : ByteArray} (hne : k ≠ ks[i]) : addF ps ks c h (i + 1) k = addF ps ks c h i k := by
  unfold addF
  rw [hasS_take hi, show decide (ks[i] = k) = false from decide_eq_false (fun e => hne e.symm), Bool.or_false]
theorem addF_ne {ps : List Pl} {ks : List ByteArray} {c h : Int} {i : Nat} (hi : i < ks.length) : addF ps ks c h (i + 1) ks[i] ≠ [] := by
  unfold addF
  rw [hasS_take hi]
  simp
theorem addF_ins {ps : List Pl} {ks : List ByteArray} {c h : Int} {i : Nat} (hi : i < ks.length) (hc : ∀ p ∈ ps, p.c < c) : (ins (addF ps ks c h i ks[i]) c (.int .i64 h)).Perm (addF ps ks c h (i + 1) ks[i]) := by
  have e0 : ∀ x ∈ keyOf ps ks[i], x.1 ≠ c := fun x hx e => by
    obtain ⟨p, hp, rfl⟩ := List.mem_map.1 hx
    have := hc p (List.mem_filter.1 hp).1
    have e' : p.c = c := e
    omega
  have e1 : era (keyOf ps ks[i]) c = keyOf ps ks[i] := List.filter_eq_self.2 fun x hx => by simpa using e0 x hx
  have e2 : era (addF ps ks c h i ks[i]) c = keyOf ps ks[i] := by
    unfold addF
    show List.filter _ (_ ++ _) = _
    rw [List.filter_append]
    have : List.filter (fun p : Int × Value => !decide (p.1 = c)) (if hasS (ks.take i) ks[i] then [(c, Value.int .i64 h)] else []) = [] := by
      split <;> simp
    rw [this, List.append_nil]
    exact e1
  unfold ins
  rw [e2]
  have e3 : addF ps ks c h (i + 1) ks[i] = keyOf ps ks[i] ++ [(c, .int .i64 h)] := by
    unfold addF
    rw [hasS_take hi]
    simp
  rw [e3]
  exact (List.perm_append_singleton _ _).symm

theorem WOk.add {ps : List Pl} {n : Int} (ho : WOk ps n) (p : Pl) (hc : p.c = n + 1) (hh : hasH ps p.h = false) (h0 : 0 < p.ks.length) (h1 : p.ks.length ≤ 3000) (hn : n < 1000000) : WOk (ps ++ [p]) (n + 1) where
  hs := by
    rw [List.map_append, List.nodup_append]
    refine ⟨ho.hs, by simp, fun a ha b hb => ?_⟩
    obtain ⟨q, hq, rfl⟩ := List.mem_map.1 ha
    simp only [List.map_cons, List.map_nil, List.mem_singleton] at hb
    subst hb
    intro e
    have := hasH_true hq
    rw [e, hh] at this
    cases this
  cs := by
    refine List.pairwise_append.2 ⟨ho.cs, by simp, fun a ha b hb => ?_⟩
    rw [List.mem_singleton] at hb
    subst hb
    have := (ho.pos a ha).2.1
    omega
  pos := fun q hq => by
    have := ho.n0
    rcases List.mem_append.1 hq with hq | hq
    · have := ho.pos q hq
      exact ⟨this.1, by omega, this.2.2⟩
    · rw [List.mem_singleton] at hq
      subst hq
      exact ⟨by omega, by omega, fun e => by rw [e] at h0; simp at h0, h1⟩
  n0 := by have := ho.n0; omega
  n1 := by omega
theorem byOf_ins {ps : List Pl} {p : Pl} (hh : hasH ps p.h = false) : (ins (byOf ps) p.h p.v).Perm (byOf (ps ++ [p])) := by
  have e : era (byOf ps) p.h = byOf ps := List.filter_eq_self.2 fun x hx => by
    obtain ⟨q, hq, rfl⟩ := List.mem_map.1 hx
    simp only [Bool.not_eq_true', decide_eq_false_iff_not]
    intro e
    have := hasH_true hq
    rw [show q.h = p.h from e, hh] at this
    cases this
  unfold ins
  rw [e]
  unfold byOf
  rw [List.map_append]
  exact (List.perm_append_singleton _ _).symm

/-- The cells that the statement reads. -/
theorem addCells {w0 w : World} {r wb b kb m c : Nat} {ad : Addr} {n h f6 : Int} {f2 f3 f5 : Bool} {f4 : ByteArray} {t1 t2 : TypeId} {Y : HP} (S : Sat w0 w (pts r (.cells #[.map (some b), .map (some kb), .int .i64 n] t1 (0, 0)) * (pts wb (.cells #[.int .i64 h, .slice (some ad) m c, .bool f2, .bool f3, .string f4, .bool f5, .int .i64 f6] t2 (0, 0)) * Y))) :
    w.cell? ⟨r, 0, none⟩ = some (.map (some b)) ∧ w.cell? ⟨r, 2, none⟩ = some (.int .i64 n) ∧ w.cell? ⟨wb, 0, none⟩ = some (.int .i64 h) ∧ w.cell? ⟨wb, 1, none⟩ = some (.slice (some ad) m c) ∧ w.cell? ⟨wb, 2, none⟩ = some (.bool f2) ∧ w.cell? ⟨wb, 3, none⟩ = some (.bool f3) ∧
      w.cell? ⟨wb, 4, none⟩ = some (.string f4) ∧ w.cell? ⟨wb, 5, none⟩ = some (.bool f5) ∧ w.cell? ⟨wb, 6, none⟩ = some (.int .i64 f6) := by
  obtain ⟨r0, r1, r2, rf⟩ := blk3 S.blk
  obtain ⟨a0, a1, a2, a3, a4, a5, a6, af⟩ := blk7 S.p2.blk
  exact ⟨r0, r2, a0, a1, a2, a3, a4, a5, a6⟩

set_option maxHeartbeats 8000000 in
/-- 'Add', of one that is new. -/
theorem wtAdd_new {w0 w : World} {r : Nat} {ps : List Pl} {n : Int} {ad : Addr} {c : Nat} {ks : List ByteArray} {h f6 : Int} {f2 f3 f5 : Bool} {f4 : ByteArray} {K R : HP} (h0 : 0 < ks.length) (h1 : ks.length ≤ 3000) (hK : Reads w0 K ad ks)
    (hn : n < 1000000) (hh : hasH ps h = false) (S : Sat w0 w (wt r ps n * (K * R))) :
    Calls Try.prog 7 #[pt r, .agg #[.int .i64 h, .slice (some ad) ks.length c, .bool f2, .bool f3, .string f4, .bool f5, .int .i64 f6]] w fun en w' =>
      en = .returned (.bool true) ∧ ∃ g cap, Sat w0 w' (wt r (ps ++ [⟨n + 1, h, ks, g, cap, f2, f3, f4, f5, f6⟩]) (n + 1) * (K * R)) := by
  obtain ⟨wb, hwb⟩ : ∃ wb, wb = w.heap.size := ⟨_, rfl⟩
  have S0 := (S.alloc (.cells #[.int .i64 h, .slice (some ad) ks.length c, .bool f2, .bool f3, .string f4, .bool f5, .int .i64 f6] 30)).p2
  rw [← hwb] at S0
  have HS := Lib.hid S0
  have HH := Lib.hid hh
  have HK := Lib.hid hK
  have HWB := Lib.hid hwb
  clear S hh S0 hK hwb
  have hm : ¬ (ks.length : Int) = 0 := by omega
  have hm2 : ¬ ks.length = 0 := by omega
  have hq := beql
  go_enter Try.func7, Try.ntmps7
  go_wp2_with fail
  rw [← HWB.out]
  refine (wtHas h HS.out).mono ?_
  rintro en w1 ⟨rfl, S1⟩
  rw [HH.out]
  clear HS HWB
  obtain ⟨b, kb, hok, S2⟩ := S1.wt_open
  have HOK := Lib.hid hok
  have hn0 := hok.n0
  obtain ⟨r0, r1, r2, rf⟩ := blk3 S2.blk
  obtain ⟨a0, a1, a2, a3, a4, a5, a6, af⟩ := blk7 S1.p2.blk
  have HS2 := Lib.hid (S2.setCell (i := 2) (.int .i64 (n + 1)))
  have hwr : wrap64 (n + 1) = n + 1 := by unfold wrap64; omega
  clear S1 S2 hok
  go_upto_region 6 with (fail)
  clear r0 r1 r2 rf a0 a1 a2 a3 a4 a5 a6 af
  refine gen_w (w0 := w0) (A := pts r (.cells #[.map (some b), .map (some kb), .int .i64 (n + 1)] 54 (0, 0)) * (pts wb (.cells #[.int .i64 h, .slice (some ad) ks.length c, .bool f2, .bool f3, .string f4, .bool f5, .int .i64 f6] 30 (0, 0)) * (K * (gmap (Value.int .i64) b (byOf ps) * (mmap kb (keyOf ps) * (star (ps.map Pl.row) * R)))))) (HS2.out.cong (by ac_rfl)) ?_
  clear HS2
  intro w2 S2
  have cs := addCells S2
  have HS2 := Lib.hid S2
  clear S2
  go_region_held3 (fun w' => w'.cell? ⟨r, 0, none⟩ = some (.map (some b)) ∧ w'.cell? ⟨r, 2, none⟩ = some (.int .i64 (n + 1)) ∧ w'.cell? ⟨wb, 0, none⟩ = some (.int .i64 h) ∧ w'.cell? ⟨wb, 1, none⟩ = some (.slice (some ad) ks.length c) ∧ w'.cell? ⟨wb, 2, none⟩ = some (.bool f2) ∧ w'.cell? ⟨wb, 3, none⟩ = some (.bool f3) ∧
      w'.cell? ⟨wb, 4, none⟩ = some (.string f4) ∧ w'.cell? ⟨wb, 5, none⟩ = some (.bool f5) ∧ w'.cell? ⟨wb, 6, none⟩ = some (.int .i64 f6)) (first | exact addCells HS4.out.p3.p4.p2 | exact addCells HS3.out | exact addCells HS2.out.drew | exact addCells HS2.out)
    ((go_at_call 20; refine (own_calls h0 h1 (HK.out _ _ HS2.out.drew.p3) HS2.out.drew).mono ?_; rintro en w3 ⟨g, cap, rfl, S3⟩; have HS3 := Lib.hid S3.p3.p3; obtain ⟨w4, hu, S4⟩ := S3.p5.run_mapUpdate (keys_int .i64) bmap ikey h (.agg #[.int .i64 h, .slice (some ⟨g, 0, none⟩) ks.length cap, .bool f2, .bool f3, .string f4, .bool f5, .int .i64 f6, .int .i64 (n + 1)]); have HS4 := Lib.hid S4; clear S3 S4))
  clear cs HS2 hu HS3
  have S4 := HS4.out
  have S5 : Sat w0 w4 (mmap kb (addF ps ks (n + 1) h 0) * (pts r (.cells #[.map (some b), .map (some kb), .int .i64 (n + 1)] 54 (0, 0)) * (pts wb (.cells #[.int .i64 h, .slice (some ad) ks.length c, .bool f2, .bool f3, .string f4, .bool f5, .int .i64 f6] 30 (0, 0)) * (K *
    (gmap (Value.int .i64) b (ins (byOf ps) h (.agg #[.int .i64 h, .slice (some ⟨g, 0, none⟩) ks.length cap, .bool f2, .bool f3, .string f4, .bool f5, .int .i64 f6, .int .i64 (n + 1)])) * (row 9 1 (.slice (some ⟨g, 0, none⟩) ks.length cap) ks.length (ks.map Value.string) * (star (ps.map Pl.row) * R))))))) := by
    rw [addF_zero]
    exact S4.cong (by ac_rfl)
  obtain ⟨a0, a1, a2, a3, a4, a5, a6, af⟩ := blk7 S5.p3.blk
  have HS5 := Lib.hid S5
  clear S4 HS4 S5
  generalize hZ : gmap (Value.int .i64) b (ins (byOf ps) h (.agg #[.int .i64 h, .slice (some ⟨g, 0, none⟩) ks.length cap, .bool f2, .bool f3, .string f4, .bool f5, .int .i64 f6, .int .i64 (n + 1)])) * (row 9 1 (.slice (some ⟨g, 0, none⟩) ks.length cap) ks.length (ks.map Value.string) * (star (ps.map Pl.row) * R)) = Z at HS5
  have HZ := Lib.hid hZ
  clear hZ
  go_wp2_with fail
  clear a0 a1 a2 a3 a4 a5 a6 af
  go_loopw [54] (fun v54 wr => ∃ i : Int, v54 = .int .i64 i ∧ 0 ≤ i ∧ i ≤ ks.length ∧ Hid (Sat w0 wr (mmap kb (addF ps ks (n + 1) h i.toNat) * (pts r (.cells #[.map (some b), .map (some kb), .int .i64 (n + 1)] 54 (0, 0)) * (pts wb (.cells #[.int .i64 h, .slice (some ad) ks.length c, .bool f2, .bool f3, .string f4, .bool f5, .int .i64 f6] 30 (0, 0)) * (K * Z)))))) (fun v54 _ => ks.length - (intOf v54).toNat)
  case atStart => exact ⟨0, rfl, by omega, by omega, HS5⟩
  case round =>
    clear HS5
    obtain ⟨i, rfl, g0, g1, HSr⟩ := hrel
    by_cases hlt : i < ks.length
    · have hi : i.toNat < ks.length := by omega
      obtain ⟨ad', e1, hx⟩ := Kd.at_string (HK.out _ _ HSr.out.p4) i g0 hlt
      cases e1
      have p0 := eq_true g0
      have p1 := eq_true hlt
      have hoff : ∀ k', k' ≠ ks[i.toNat] → addF ps ks (n + 1) h (i.toNat + 1) k' = addF ps ks (n + 1) h i.toNat k' := fun k' hne => addF_off hi hne
      have hne : addF ps ks (n + 1) h (i.toNat + 1) ks[i.toNat] ≠ [] := addF_ne hi
      have hins := addF_ins (h := h) hi (c := n + 1) (ps := ps) (fun p hp => by have := (HOK.out.pos p hp).2.1; omega)
      have hrd : rdOf ByteArray.empty ks i = ks[i.toNat] := by unfold rdOf; simp [List.getD_eq_getElem?_getD, hi]
      rw [hrd] at hx
      clear hrd
      generalize ks[i.toNat] = key at *
      obtain ⟨F', hF'⟩ : ∃ F', F' = addF ps ks (n + 1) h (i.toNat + 1) := ⟨_, rfl⟩
      have HF' := Lib.hid hF'
      rw [← hF'] at hoff hne hins
      clear hF'
      generalize addF ps ks (n + 1) h i.toNat = F at *
      have HOFF := Lib.hid hoff
      have HNE := Lib.hid hne
      have hrlt := HSr.out.p2.lt
      have hblt := HSr.out.p3.lt
      obtain ⟨r0, r1, r2, rf⟩ := blk3 HSr.out.p2.blk
      obtain ⟨a0, -, -, -, -, -, -, af⟩ := blk7 HSr.out.p3.blk
      by_cases hF : F key = []
      case' pos =>
        rw [hF] at hins
        have HINS := Lib.hid hins
        have hl := HSr.out.mmap_none hF kkm skey kkzero
        have hq2 := ieql none
        have S1 := (HSr.out.gmap_made (κ := Int) (kv := Value.int .i64)).p2
        obtain ⟨w5, hu5, S5⟩ := S1.mmap_ins hF kkm skey wr.heap.size
        have hl6 := S5.drew.kbut_lookup kkm skey kkzero
        obtain ⟨w6, hu6, S6⟩ := S5.drew.p2.run_mapUpdate (keys_int .i64) imap ikey (n + 1) (.int .i64 h)
        obtain ⟨q0, q1, q2, qf⟩ := blk3 S5.p3.blk
        obtain ⟨b0, -, -, -, -, -, -, bf⟩ := blk7 S5.p4.blk
        have hmm := @run_makeMap Try.prog
        rw [gmap_perm HINS.out] at S6
        have HS6 := Lib.hid S6
        clear S1 S5 S6 hF hoff hne hins HSr hi
        go_wp2_with fail
        clear r0 r1 r2 rf a0 af hl hu5 hq2 hrlt hblt hx
        go_region
        have S7 := Sat.kbut_close HOFF.out rfl HNE.out HS6.out
        have HS7 := Lib.hid S7
        clear q0 q1 q2 qf b0 bf hl6 hu6 hmm HS6 S7 HINS
      case' neg =>
        obtain ⟨p, hl, S5⟩ := HSr.out.mmap_some hF kkm skey kkzero
        have HINS := Lib.hid hins
        have hq2 := ieql (some p)
        have hl6 := S5.p2.drew.kbut_lookup kkm skey kkzero
        obtain ⟨w6, hu6, S6⟩ := S5.drew.run_mapUpdate (keys_int .i64) imap ikey (n + 1) (.int .i64 h)
        rw [gmap_perm HINS.out] at S6
        have HS6 := Lib.hid S6
        clear S5 S6 hF hoff hne hins HSr hi
        go_wp2_with fail
        clear hl hq2 hrlt hblt hx
        go_region
        have S7 := Sat.kbut_close HOFF.out rfl HNE.out HS6.out
        have HS7 := Lib.hid S7
        clear r0 r1 r2 rf a0 af hl6 hu6 HS6 S7 HINS
      all_goals
        go_wp2_with fail
        go_roundw
        case rel => exact ⟨i + 1, rfl, by omega, by omega, by rw [show (i + 1).toNat = i.toNat + 1 from by omega, ← HF'.out]; exact HS7⟩
        case measure => simp [intOf]; omega
    · have hge : ¬ i < (ks.length : Int) := hlt
      have ei : i.toNat = ks.length := by omega
      rw [ei] at HSr
      clear hlt ei
      go_wp2_with fail
      go_ret
      refine ⟨rfl, g, cap, ?_⟩
      have S8 := HSr.out
      rw [← HZ.out] at S8
      obtain ⟨p, hp⟩ : ∃ p : Pl, p = ⟨n + 1, h, ks, g, cap, f2, f3, f4, f5, f6⟩ := ⟨_, rfl⟩
      have e1 : addF ps ks (n + 1) h ks.length = keyOf (ps ++ [p]) := by rw [hp]; exact addF_all ps ⟨n + 1, h, ks, g, cap, f2, f3, f4, f5, f6⟩
      have e2 : (ins (byOf ps) h (.agg #[.int .i64 h, .slice (some ⟨g, 0, none⟩) ks.length cap, .bool f2, .bool f3, .string f4, .bool f5, .int .i64 f6, .int .i64 (n + 1)])).Perm (byOf (ps ++ [p])) := by
        rw [hp]; exact byOf_ins (p := ⟨n + 1, h, ks, g, cap, f2, f3, f4, f5, f6⟩) HH.out
      have e3 : row 9 1 (.slice (some ⟨g, 0, none⟩) ks.length cap) ks.length (ks.map Value.string) = p.row := by rw [hp]; rfl
      rw [e1, gmap_perm e2, e3] at S8
      rw [← hp]
      refine Sat.wt_shut (b := b) (kb := kb) (HOK.out.add p (by rw [hp]) (by rw [hp]; exact HH.out) (by rw [hp]; exact h0) (by rw [hp]; exact h1) hn) (S8.p3.drop1.cong ?_)
      rw [List.map_append, star_append, List.map_cons, List.map_nil, star_cons, star_nil, mul_emp]
      ac_rfl
end Go.Sl
