/-
  Package wait: the zero row.
-/
import Derived.Test.YtddkongfhffajaaWaitN
namespace Go.Sl
open Go.RowKit Go.Proofs Go.Proofs.YtddkongfhffajaaW.PrintWords
set_option linter.unusedVariables false
set_option linter.unusedSimpArgs false
set_option maxRecDepth 100000

theorem wtHas_zero {w0 w : World} {r : Nat} {R : HP} (h : Int) (S : Sat w0 w (pts r (.cells #[.map none, .map none, .int .i64 0] 75 (0, 0)) * R)) :
    Calls Try.prog 29 #[pt r, .int .i64 h] w fun en w' => en = .returned (.bool false) ∧ Sat w0 w' (pts r (.cells #[.map none, .map none, .int .i64 0] 75 (0, 0)) * R) := by
  obtain ⟨c0, c1, c2, -⟩ := blk3 S.blk
  have hl := run_lookup_nil (keys_int .i64) bmap ikey bzero w true h
  have HA := Lib.hid (S.alloc (.cells #[.int .i64 0, .slice none 0 0, .bool false, .bool false, .string ⟨#[]⟩, .bool false, .int .i64 0, .int .i64 0] 82)).drop1
  clear S
  go_enter Try.func29, Try.ntmps29
  go_wp2_with fail
  go_ret
  exact ⟨rfl, HA.out⟩
theorem blen_nil (ty : TypeId) (w : World) : (Builtin.len_ #[72] ty #[.map none]).run Try.prog w = .ok (.int .i64 0) w := by
  simp [Builtin.len_, run_underlying bmap, Result.andThen, goInt]
theorem wtLen_zero {w0 w : World} {r : Nat} {R : HP} (S : Sat w0 w (pts r (.cells #[.map none, .map none, .int .i64 0] 75 (0, 0)) * R)) :
    Calls Try.prog 37 #[pt r] w fun en w' => en = .returned (.int .i64 0) ∧ w' = w := by
  obtain ⟨c0, c1, c2, -⟩ := blk3 S.blk
  have hl := blen_nil 3
  clear S
  go_enter Try.func37, Try.ntmps37
  go_wp2_with fail
  go_ret
  exact ⟨rfl, rfl⟩
theorem wtFirst_zero {w0 w : World} {r : Nat} {key : ByteArray} {R : HP} (S1 : Sat w0 w (pts r (.cells #[.map none, .map none, .int .i64 0] 75 (0, 0)) * R)) :
    Calls Try.prog 28 #[pt r, .string key] w fun en w' => en = .returned (.tuple #[.agg #[.int .i64 0, .slice none 0 0, .bool false, .bool false, .string ⟨#[]⟩, .bool false, .int .i64 0], .bool false]) ∧ Sat w0 w' (pts r (.cells #[.map none, .map none, .int .i64 0] 75 (0, 0)) * R) := by
  obtain ⟨r0, r1, r2, rf⟩ := blk3 S1.blk
  have hrlt := S1.lt
  have S2 := (S1.alloc (.cells #[.int .i64 0, .slice none 0 0, .bool false, .bool false, .string ⟨#[]⟩, .bool false, .int .i64 0] 50))
  have hl := fun W => run_lookup_nil keys_string kkm skey kkzero W false key
  have hlen := ilen_nil 3
  have HS := Lib.hid S2.drop1
  have HB := Lib.hid S2.blk
  clear S1 S2
  go_enter Try.func28, Try.ntmps28
  go_wp2_with fail
  refine bodyPost_ret (results_ct rfl _ _ w.heap.size 50 _ (0, 0) _ rfl HB.out Try.underlying50 rfl wsize) rfl ?_
  exact ⟨rfl, HS.out⟩
theorem WOk.none : WOk [] 0 := ⟨by simp, by simp, by simp, by omega, by omega⟩
set_option maxHeartbeats 8000000 in
/-- 'Add', to the zero row. -/
theorem wtAdd_zero {w0 w : World} {r : Nat} {ad : Addr} {c : Nat} {ks : List ByteArray} {h f6 : Int} {f2 f3 f5 : Bool} {f4 : ByteArray} {K R : HP} (h0 : 0 < ks.length) (h1 : ks.length ≤ 3000) (hK : Reads w0 K ad ks)
    (S : Sat w0 w (pts r (.cells #[.map none, .map none, .int .i64 0] 75 (0, 0)) * (K * R))) :
    Calls Try.prog 27 #[pt r, .agg #[.int .i64 h, .slice (some ad) ks.length c, .bool f2, .bool f3, .string f4, .bool f5, .int .i64 f6]] w fun en w' =>
      en = .returned (.bool true) ∧ ∃ g cap, Sat w0 w' (wt r [⟨1, h, ks, g, cap, f2, f3, f4, f5, f6⟩] 1 * (K * R)) := by
  obtain ⟨ps, hps⟩ : ∃ ps : List Pl, ps = [] := ⟨_, rfl⟩
  obtain ⟨n, hnz⟩ : ∃ n : Int, n = 0 := ⟨_, rfl⟩
  obtain ⟨wb, hwb⟩ : ∃ wb, wb = w.heap.size := ⟨_, rfl⟩
  have S0 := (S.alloc (.cells #[.int .i64 h, .slice (some ad) ks.length c, .bool f2, .bool f3, .string f4, .bool f5, .int .i64 f6] 50)).p2
  rw [← hwb] at S0
  have HS := Lib.hid S0
  have hh : hasH ps h = false := by rw [hps]; rfl
  have HH := Lib.hid hh
  have HK := Lib.hid hK
  have HWB := Lib.hid hwb
  have HPS := Lib.hid hps
  have HNZ := Lib.hid hnz
  have hok : WOk ps n := by rw [hps, hnz]; exact WOk.none
  have HOK := Lib.hid hok
  have hn : n < 1000000 := by omega
  have hn0 := hok.n0
  clear S hh S0 hK hwb hok hps hnz
  have hm : ¬ (ks.length : Int) = 0 := by omega
  have hm2 : ¬ ks.length = 0 := by omega
  have hq := beql
  go_enter Try.func27, Try.ntmps27
  go_wp2_with fail
  rw [← HWB.out]
  refine (wtHas_zero h HS.out).mono ?_
  rintro en w1 ⟨rfl, S1⟩
  obtain ⟨z0, z1, z2, zf⟩ := blk3 S1.blk
  have HS1 := Lib.hid S1
  clear HS HWB S1
  go_wp2_with fail
  refine (wtNew HS1.out).mono ?_
  rintro en w2 ⟨r', rfl, S2⟩
  clear z0 z1 z2 zf HS1
  obtain ⟨b, kb, -, S3⟩ := S2.wt_open
  have S3' : Sat w0 w2 (pts r (.cells #[.map none, .map none, .int .i64 0] 75 (0, 0)) * (pts r' (.cells #[.map (some b), .map (some kb), .int .i64 0] 75 (0, 0)) * (gmap (Value.int .i64) b (byOf []) * (mmap kb (keyOf []) * (star (([] : List Pl).map Pl.row) * (pts wb (.cells #[.int .i64 h, .slice (some ad) ks.length c, .bool f2, .bool f3, .string f4, .bool f5, .int .i64 f6] 50 (0, 0)) * (K * R))))))) := S3.cong (by ac_rfl)
  obtain ⟨y0, y1, y2, yf⟩ := blk3 S3'.p2.blk
  obtain ⟨r0, r1, r2, rf⟩ := blk3 S3'.blk
  obtain ⟨a0, a1, a2, a3, a4, a5, a6, af⟩ := blk7 S3'.p6.blk
  have hne := S3'.ne
  have S4 := (((S3'.setCell (i := 0) (.map (some b))).setCell (i := 1) (.map (some kb))).setCell (i := 2) (.int .i64 0)).setCell (i := 2) (.int .i64 1)
  have e01 : n + 1 = 1 := by rw [HNZ.out]; rfl
  have HE := Lib.hid e01
  have HS2 : Hid (Sat w0 _ (pts r (.cells #[.map (some b), .map (some kb), .int .i64 (n + 1)] 75 (0, 0)) * (gmap (Value.int .i64) b (byOf ps) * (mmap kb (keyOf ps) * (star (ps.map Pl.row) * (pts wb (.cells #[.int .i64 h, .slice (some ad) ks.length c, .bool f2, .bool f3, .string f4, .bool f5, .int .i64 f6] 50 (0, 0)) * (K * R))))))) := Lib.hid (S4.p2.drop1.cong (by rw [HPS.out, e01]; rfl))
  have hwr : wrap64 (n + 1) = n + 1 := by unfold wrap64; omega
  clear S2 S3 S3' S4 e01
  go_upto_region 6 with (fail)
  clear r0 r1 r2 rf a0 a1 a2 a3 a4 a5 a6 af
  refine gen_w (w0 := w0) (A := pts r (.cells #[.map (some b), .map (some kb), .int .i64 (n + 1)] 75 (0, 0)) * (pts wb (.cells #[.int .i64 h, .slice (some ad) ks.length c, .bool f2, .bool f3, .string f4, .bool f5, .int .i64 f6] 50 (0, 0)) * (K * (gmap (Value.int .i64) b (byOf ps) * (mmap kb (keyOf ps) * (star (ps.map Pl.row) * R)))))) (HS2.out.cong (by ac_rfl)) ?_
  clear HS2
  intro w2 S2
  have cs := addCells S2
  have HS2 := Lib.hid S2
  clear S2
  go_region_held3 (fun w' => w'.cell? ⟨r, 0, none⟩ = some (.map (some b)) ∧ w'.cell? ⟨r, 2, none⟩ = some (.int .i64 (n + 1)) ∧ w'.cell? ⟨wb, 0, none⟩ = some (.int .i64 h) ∧ w'.cell? ⟨wb, 1, none⟩ = some (.slice (some ad) ks.length c) ∧ w'.cell? ⟨wb, 2, none⟩ = some (.bool f2) ∧ w'.cell? ⟨wb, 3, none⟩ = some (.bool f3) ∧
      w'.cell? ⟨wb, 4, none⟩ = some (.string f4) ∧ w'.cell? ⟨wb, 5, none⟩ = some (.bool f5) ∧ w'.cell? ⟨wb, 6, none⟩ = some (.int .i64 f6)) (first | exact addCells HS4.out.p3.p4.p2 | exact addCells HS3.out | exact addCells HS2.out.drew | exact addCells HS2.out)
    ((go_at_call 41; refine (own_calls h0 h1 (HK.out _ _ HS2.out.drew.p3) HS2.out.drew).mono ?_; rintro en w3 ⟨g, cap, rfl, S3⟩; have HS3 := Lib.hid S3.p3.p3; obtain ⟨w4, hu, S4⟩ := S3.p5.run_mapUpdate (keys_int .i64) bmap ikey h (.agg #[.int .i64 h, .slice (some ⟨g, 0, none⟩) ks.length cap, .bool f2, .bool f3, .string f4, .bool f5, .int .i64 f6, .int .i64 (n + 1)]); have HS4 := Lib.hid S4; clear S3 S4))
  clear cs HS2 hu HS3
  have S4 := HS4.out
  have S5 : Sat w0 w4 (mmap kb (addF ps ks (n + 1) h 0) * (pts r (.cells #[.map (some b), .map (some kb), .int .i64 (n + 1)] 75 (0, 0)) * (pts wb (.cells #[.int .i64 h, .slice (some ad) ks.length c, .bool f2, .bool f3, .string f4, .bool f5, .int .i64 f6] 50 (0, 0)) * (K *
    (gmap (Value.int .i64) b (ins (byOf ps) h (.agg #[.int .i64 h, .slice (some ⟨g, 0, none⟩) ks.length cap, .bool f2, .bool f3, .string f4, .bool f5, .int .i64 f6, .int .i64 (n + 1)])) * (row 9 1 (.slice (some ⟨g, 0, none⟩) ks.length cap) ks.length (ks.map Value.string) * (star (ps.map Pl.row) * R))))))) := by
    rw [addF_zero]
    exact S4.cong (by ac_rfl)
  obtain ⟨a0, a1, a2, a3, a4, a5, a6, af⟩ := blk7 S5.p3.blk
  have HS5 := Lib.hid S5
  clear S4 HS4 S5
  generalize hZ : gmap (Value.int .i64) b (ins (byOf ps) h (.agg #[.int .i64 h, .slice (some ⟨g, 0, none⟩) ks.length cap, .bool f2, .bool f3, .string f4, .bool f5, .int .i64 f6, .int .i64 (n + 1)])) * (row 9 1 (.slice (some ⟨g, 0, none⟩) ks.length cap) ks.length (ks.map Value.string) * (star (ps.map Pl.row) * R)) = Z at HS5
  have HZ := Lib.hid hZ
  clear hZ
  go_wp2_with fail
  clear a0 a1 a2 a3 a4 a5 a6 af
  go_loopw [54] (fun v54 wr => ∃ i : Int, v54 = .int .i64 i ∧ 0 ≤ i ∧ i ≤ ks.length ∧ Hid (Sat w0 wr (mmap kb (addF ps ks (n + 1) h i.toNat) * (pts r (.cells #[.map (some b), .map (some kb), .int .i64 (n + 1)] 75 (0, 0)) * (pts wb (.cells #[.int .i64 h, .slice (some ad) ks.length c, .bool f2, .bool f3, .string f4, .bool f5, .int .i64 f6] 50 (0, 0)) * (K * Z)))))) (fun v54 _ => ks.length - (intOf v54).toNat)
  case atStart => exact ⟨0, rfl, by omega, by omega, HS5⟩
  case round =>
    clear HS5
    obtain ⟨i, rfl, g0, g1, HSr⟩ := hrel
    by_cases hlt : i < ks.length
    · have hi : i.toNat < ks.length := by omega
      obtain ⟨ad', e1, hx⟩ := Kd.at_string (HK.out _ _ HSr.out.p4) i g0 hlt
      cases e1
      have p0 := eq_true g0
      have p1 := eq_true hlt
      have hoff : ∀ k', k' ≠ ks[i.toNat] → addF ps ks (n + 1) h (i.toNat + 1) k' = addF ps ks (n + 1) h i.toNat k' := fun k' hne => addF_off hi hne
      have hne : addF ps ks (n + 1) h (i.toNat + 1) ks[i.toNat] ≠ [] := addF_ne hi
      have hins := addF_ins (h := h) hi (c := n + 1) (ps := ps) (fun p hp => by have := (HOK.out.pos p hp).2.1; omega)
      have hrd : rdOf ByteArray.empty ks i = ks[i.toNat] := by unfold rdOf; simp [List.getD_eq_getElem?_getD, hi]
      rw [hrd] at hx
      clear hrd
      generalize ks[i.toNat] = key at *
      obtain ⟨F', hF'⟩ : ∃ F', F' = addF ps ks (n + 1) h (i.toNat + 1) := ⟨_, rfl⟩
      have HF' := Lib.hid hF'
      rw [← hF'] at hoff hne hins
      clear hF'
      generalize addF ps ks (n + 1) h i.toNat = F at *
      have HOFF := Lib.hid hoff
      have HNE := Lib.hid hne
      have hrlt := HSr.out.p2.lt
      have hblt := HSr.out.p3.lt
      obtain ⟨r0, r1, r2, rf⟩ := blk3 HSr.out.p2.blk
      obtain ⟨a0, -, -, -, -, -, -, af⟩ := blk7 HSr.out.p3.blk
      by_cases hF : F key = []
      case' pos =>
        rw [hF] at hins
        have HINS := Lib.hid hins
        have hl := HSr.out.mmap_none hF kkm skey kkzero
        have hq2 := ieql none
        have S1 := (HSr.out.gmap_made (κ := Int) (kv := Value.int .i64)).p2
        obtain ⟨w5, hu5, S5⟩ := S1.mmap_ins hF kkm skey wr.heap.size
        have hl6 := S5.drew.kbut_lookup kkm skey kkzero
        obtain ⟨w6, hu6, S6⟩ := S5.drew.p2.run_mapUpdate (keys_int .i64) imap ikey (n + 1) (.int .i64 h)
        obtain ⟨q0, q1, q2, qf⟩ := blk3 S5.p3.blk
        obtain ⟨b0, -, -, -, -, -, -, bf⟩ := blk7 S5.p4.blk
        have hmm := @run_makeMap Try.prog
        rw [gmap_perm HINS.out] at S6
        have HS6 := Lib.hid S6
        clear S1 S5 S6 hF hoff hne hins HSr hi
        go_wp2_with fail
        clear r0 r1 r2 rf a0 af hl hu5 hq2 hrlt hblt hx
        go_region
        have S7 := Sat.kbut_close HOFF.out rfl HNE.out HS6.out
        have HS7 := Lib.hid S7
        clear q0 q1 q2 qf b0 bf hl6 hu6 hmm HS6 S7 HINS
      case' neg =>
        obtain ⟨p, hl, S5⟩ := HSr.out.mmap_some hF kkm skey kkzero
        have HINS := Lib.hid hins
        have hq2 := ieql (some p)
        have hl6 := S5.p2.drew.kbut_lookup kkm skey kkzero
        obtain ⟨w6, hu6, S6⟩ := S5.drew.run_mapUpdate (keys_int .i64) imap ikey (n + 1) (.int .i64 h)
        rw [gmap_perm HINS.out] at S6
        have HS6 := Lib.hid S6
        clear S5 S6 hF hoff hne hins HSr hi
        go_wp2_with fail
        clear hl hq2 hrlt hblt hx
        go_region
        have S7 := Sat.kbut_close HOFF.out rfl HNE.out HS6.out
        have HS7 := Lib.hid S7
        clear r0 r1 r2 rf a0 af hl6 hu6 HS6 S7 HINS
      all_goals
        go_wp2_with fail
        go_roundw
        case rel => exact ⟨i + 1, rfl, by omega, by omega, by rw [show (i + 1).toNat = i.toNat + 1 from by omega, ← HF'.out]; exact HS7⟩
        case measure => simp [intOf]; omega
    · have hge : ¬ i < (ks.length : Int) := hlt
      have ei : i.toNat = ks.length := by omega
      rw [ei] at HSr
      clear hlt ei
      go_wp2_with fail
      go_ret
      refine ⟨rfl, g, cap, ?_⟩
      suffices H : Sat w0 wr (wt r (ps ++ [⟨n + 1, h, ks, g, cap, f2, f3, f4, f5, f6⟩]) (n + 1) * (K * R)) by
        rw [HPS.out, HE.out] at H
        exact H
      have S8 := HSr.out
      rw [← HZ.out] at S8
      obtain ⟨p, hp⟩ : ∃ p : Pl, p = ⟨n + 1, h, ks, g, cap, f2, f3, f4, f5, f6⟩ := ⟨_, rfl⟩
      have e1 : addF ps ks (n + 1) h ks.length = keyOf (ps ++ [p]) := by rw [hp]; exact addF_all ps ⟨n + 1, h, ks, g, cap, f2, f3, f4, f5, f6⟩
      have e2 : (ins (byOf ps) h (.agg #[.int .i64 h, .slice (some ⟨g, 0, none⟩) ks.length cap, .bool f2, .bool f3, .string f4, .bool f5, .int .i64 f6, .int .i64 (n + 1)])).Perm (byOf (ps ++ [p])) := by
        rw [hp]; exact byOf_ins (p := ⟨n + 1, h, ks, g, cap, f2, f3, f4, f5, f6⟩) HH.out
      have e3 : row 9 1 (.slice (some ⟨g, 0, none⟩) ks.length cap) ks.length (ks.map Value.string) = p.row := by rw [hp]; rfl
      rw [e1, gmap_perm e2, e3] at S8
      rw [← hp]
      refine Sat.wt_shut (b := b) (kb := kb) (HOK.out.add p (by rw [hp]) (by rw [hp]; exact HH.out) (by rw [hp]; exact h0) (by rw [hp]; exact h1) hn) (S8.p3.drop1.cong ?_)
      rw [List.map_append, star_append, List.map_cons, List.map_nil, star_cons, star_nil, mul_emp]
      ac_rfl
end Go.Sl
