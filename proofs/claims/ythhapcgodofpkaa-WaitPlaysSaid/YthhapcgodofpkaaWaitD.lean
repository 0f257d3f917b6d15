/-
  The contract of package wait's Drop.
-/
import Derived.Test.YthhapcgodofpkaaWaitA
namespace Go.Sl
open Go.RowKit Go.Proofs Go.Proofs.YthhapcgodofpkaaW.PrintWords
set_option linter.unusedVariables false
set_option linter.unusedSimpArgs false
set_option maxRecDepth 100000

/-- Without whoever has this handle. -/
def dropH (ps : List Pl) (h : Int) : List Pl := ps.filter fun q => !decide (q.h = h)
/-- What the keys' maps have when p has been taken from under its first i keys. -/
def dropF (ps : List Pl) (p : Pl) (i : Nat) : KF := fun k => if hasS (p.ks.take i) k then keyOf (dropH ps p.h) k else keyOf ps k
theorem dropF_zero (ps : List Pl) (p : Pl) : dropF ps p 0 = keyOf ps := by
  funext k; simp [dropF, hasS]
theorem WOk.drop {ps : List Pl} {n : Int} (ho : WOk ps n) (h : Int) : WOk (dropH ps h) n where
  hs := ho.hs.sublist (List.filter_sublist.map _)
  cs := ho.cs.filter _
  pos := fun q hq => ho.pos q (List.mem_filter.1 hq).1
  n0 := ho.n0
  n1 := ho.n1
theorem WOk.same {ps : List Pl} {n : Int} (ho : WOk ps n) {p q : Pl} (hp : p ∈ ps) (hq : q ∈ ps) (e : q.h = p.h) : q = p := by
  obtain ⟨i, hi, rfl⟩ := List.getElem_of_mem hp
  obtain ⟨j, hj, rfl⟩ := List.getElem_of_mem hq
  have := ho.hs
  have hij : j = i := (List.getElem_inj (xs := ps.map (·.h)) (h₀ := by simpa using hj) (h₁ := by simpa using hi) this).1 (by simpa using e)
  subst hij
  rfl
theorem WOk.same_c {ps : List Pl} {n : Int} (ho : WOk ps n) {p q : Pl} (hp : p ∈ ps) (hq : q ∈ ps) (e : q.c = p.c) : q = p := by
  obtain ⟨i, hi, rfl⟩ := List.getElem_of_mem hp
  obtain ⟨j, hj, rfl⟩ := List.getElem_of_mem hq
  have hp := List.pairwise_iff_getElem.1 ho.cs
  rcases Nat.lt_trichotomy i j with h | h | h
  · have := hp i j hi hj h; omega
  · subst h; rfl
  · have := hp j i hj hi h; omega
theorem dropH_key {ps : List Pl} {p : Pl} {k : ByteArray} (hk : hasS p.ks k = false) (hs : ∀ q ∈ ps, q.h = p.h → q = p) : keyOf (dropH ps p.h) k = keyOf ps k := by
  unfold keyOf dropH
  rw [List.filter_filter]
  congr 1
  refine List.filter_congr fun q hq => ?_
  by_cases e : q.h = p.h
  · rw [hs q hq e, hk]; simp
  · simp [e]
theorem dropF_all {ps : List Pl} {n : Int} (ho : WOk ps n) {p : Pl} (hp : p ∈ ps) : dropF ps p p.ks.length = keyOf (dropH ps p.h) := by
  funext k
  unfold dropF
  rw [List.take_length]
  cases hk : hasS p.ks k with
  | true => simp
  | false => simp only [Bool.false_eq_true, if_false]; exact (dropH_key hk (fun q hq e => ho.same hp hq e)).symm
theorem dropF_off {ps : List Pl} {p : Pl} {i : Nat} (hi : i < p.ks.length) {k : ByteArray} (hne : k ≠ p.ks[i]) : dropF ps p (i + 1) k = dropF ps p i k := by
  unfold dropF
  rw [hasS_take hi, show decide (p.ks[i] = k) = false from decide_eq_false (fun e => hne e.symm), Bool.or_false]
theorem dropF_at {ps : List Pl} {p : Pl} {i : Nat} (hi : i < p.ks.length) : dropF ps p (i + 1) p.ks[i] = keyOf (dropH ps p.h) p.ks[i] := by
  unfold dropF
  rw [hasS_take hi]
  simp
theorem era_key {ps : List Pl} {n : Int} (ho : WOk ps n) {p : Pl} (hp : p ∈ ps) (k : ByteArray) : era (keyOf ps k) p.c = keyOf (dropH ps p.h) k := by
  unfold era keyOf dropH
  rw [List.filter_map, List.filter_filter, List.filter_filter]
  congr 1
  refine List.filter_congr fun q hq => ?_
  have : decide (q.c = p.c) = decide (q.h = p.h) := decide_eq_decide.2 ⟨fun e => by rw [ho.same_c hp hq e], fun e => by rw [ho.same hp hq e]⟩
  simp only [Function.comp, this]
  rw [Bool.and_comm]
theorem era_drop {ps : List Pl} {n : Int} (ho : WOk ps n) {p : Pl} (hp : p ∈ ps) (i : Nat) (k : ByteArray) : era (dropF ps p i k) p.c = keyOf (dropH ps p.h) k := by
  unfold dropF
  split
  · rw [← era_key ho hp k]
    unfold era
    rw [List.filter_filter]
    simp
  · exact era_key ho hp k
theorem byOf_era {ps : List Pl} {h : Int} : era (byOf ps) h = byOf (dropH ps h) := by
  unfold era byOf dropH
  rw [List.filter_map]
  rfl
theorem dropH_perm {ps : List Pl} {n : Int} (ho : WOk ps n) {p : Pl} (hp : p ∈ ps) : ps.Perm (p :: dropH ps p.h) := by
  obtain ⟨pre, post, rfl⟩ := List.append_of_mem hp
  have hn := ho.hs
  rw [List.map_append, List.map_cons, List.nodup_append, List.nodup_cons] at hn
  obtain ⟨h1, h2, h3⟩ := hn
  have e1 : dropH pre p.h = pre := List.filter_eq_self.2 fun q hq => by
    simp only [Bool.not_eq_true', decide_eq_false_iff_not]
    exact fun e => h3 _ (List.mem_map.2 ⟨q, hq, rfl⟩) _ List.mem_cons_self e
  have e2 : dropH post p.h = post := List.filter_eq_self.2 fun q hq => by
    simp only [Bool.not_eq_true', decide_eq_false_iff_not]
    exact fun e => h2.1 (List.mem_map.2 ⟨q, hq, e⟩)
  have : dropH (pre ++ p :: post) p.h = pre ++ post := by
    unfold dropH at *
    rw [List.filter_append, List.filter_cons_of_neg (by simp), e1, e2]
  rw [this]
  exact List.perm_middle

/-- 'Drop', of one that does not wait. -/
theorem wtDrop_none {w0 w : World} {r : Nat} {ps : List Pl} {n : Int} {h : Int} {R : HP} (hh : hasH ps h = false) (S : Sat w0 w (wt r ps n * R)) :
    Calls Try.prog 9 #[pt r, .int .i64 h] w fun en w' => en = .returned (.tuple #[.agg #[.int .i64 0, .slice none 0 0, .bool false, .bool false, .string ⟨#[]⟩, .bool false, .int .i64 0], .bool false]) ∧ Sat w0 w' (wt r ps n * R) := by
  obtain ⟨wb, hwb⟩ : ∃ wb, wb = w.heap.size := ⟨_, rfl⟩
  have S0 := (S.alloc (.cells #[.int .i64 0, .slice none 0 0, .bool false, .bool false, .string ⟨#[]⟩, .bool false, .int .i64 0] 30))
  rw [← hwb] at S0
  have HS := Lib.hid S0.p2
  have HH := Lib.hid hh
  have HWB := Lib.hid hwb
  clear S hh S0 hwb
  go_enter Try.func9, Try.ntmps9
  go_wp2_with fail
  rw [← HWB.out]
  refine (wtHas h HS.out).mono ?_
  rintro en w1 ⟨rfl, S1⟩
  rw [HH.out]
  clear HS
  obtain ⟨a0, a1, a2, a3, a4, a5, a6, af⟩ := blk7 S1.p2.blk
  have S2 := ((((((S1.p2.setCell (i := 0) (.int .i64 0)).setCell (i := 1) (.slice none 0 0)).setCell (i := 2) (.bool false)).setCell (i := 3) (.bool false)).setCell (i := 4) (.string ⟨#[]⟩)).setCell (i := 5) (.bool false)).setCell (i := 6) (.int .i64 0)
  have HS2 := Lib.hid S2.drop1
  have HB2 := Lib.hid S2.blk
  clear S1 S2
  go_wp2_with fail
  refine bodyPost_ret (results_ct rfl _ _ wb 30 _ (0, 0) _ rfl HB2.out Try.underlying30 rfl wsize) rfl ?_
  exact ⟨rfl, HS2.out⟩

theorem ineq (r : Option Nat) (w : World) : (binOp .neq 58 (.map r) (.map none)).run Try.prog w = .ok (.bool (!r.isNone)) w := run_neq_map_nil w _ _ _ r imap

set_option maxHeartbeats 8000000 in
/-- 'Drop', of one that waits. -/
theorem wtDrop_some {w0 w : World} {r : Nat} {ps : List Pl} {n : Int} {p : Pl} {R : HP} (hp : p ∈ ps) (S : Sat w0 w (wt r ps n * R)) :
    Calls Try.prog 9 #[pt r, .int .i64 p.h] w fun en w' => en = .returned (.tuple #[p.wv, .bool true]) ∧ Sat w0 w' (wt r (dropH ps p.h) n * (p.row * R)) := by
  obtain ⟨wb, hwb⟩ : ∃ wb, wb = w.heap.size := ⟨_, rfl⟩
  have S0 := (S.alloc (.cells #[.int .i64 0, .slice none 0 0, .bool false, .bool false, .string ⟨#[]⟩, .bool false, .int .i64 0] 30))
  rw [← hwb] at S0
  have HS := Lib.hid S0.p2
  have HH : Hid (hasH ps p.h = true) := Lib.hid (hasH_true hp)
  have HP := Lib.hid hp
  have HWB := Lib.hid hwb
  clear S S0 hwb hp
  go_enter Try.func9, Try.ntmps9
  go_wp2_with fail
  rw [← HWB.out]
  refine (wtHas p.h HS.out).mono ?_
  rintro en w1 ⟨rfl, S1⟩
  rw [HH.out]
  clear HS HWB HH
  obtain ⟨b, kb, hok, S2⟩ := S1.wt_open
  have HOK := Lib.hid hok
  have hlen := (hok.pos p HP.out).2.2.2
  have hrlt := S2.lt
  obtain ⟨r0, r1, r2, rf⟩ := blk3 S2.blk
  have hl := S2.p2.run_lookup (keys_int .i64) bmap ikey bzero false p.h
  rw [byOf_has hok.hs HP.out] at hl
  unfold Pl.v at hl
  obtain ⟨pb, hpb⟩ : ∃ pb, pb = w1.heap.size := ⟨_, rfl⟩
  have S3 := (S2.alloc (.cells #[.int .i64 p.h, p.e, .bool p.f2, .bool p.f3, .string p.f4, .bool p.f5, .int .i64 p.f6, .int .i64 p.c] 57))
  obtain ⟨w3, hd, S4⟩ := S3.p3.run_delete (keys_int .i64) bmap ikey p.h 0 3
  rw [← hpb] at S4
  have S5 : Sat w0 w3 (mmap kb (dropF ps p 0) * (pts r (.cells #[.map (some b), .map (some kb), .int .i64 n] 54 (0, 0)) * (pts pb (.cells #[.int .i64 p.h, p.e, .bool p.f2, .bool p.f3, .string p.f4, .bool p.f5, .int .i64 p.f6, .int .i64 p.c] 57 (0, 0)) * (p.row *
    (pts wb (.cells #[.int .i64 0, .slice none 0 0, .bool false, .bool false, .string ⟨#[]⟩, .bool false, .int .i64 0] 30 (0, 0)) * (gmap (Value.int .i64) b (byOf (dropH ps p.h)) * (star ((dropH ps p.h).map Pl.row) * R))))))) := by
    rw [dropF_zero]
    rw [byOf_era] at S4
    refine S4.cong ?_
    rw [star_perm ((dropH_perm hok HP.out).map Pl.row), List.map_cons, star_cons]
    ac_rfl
  have HS5 := Lib.hid S5
  have HPB := Lib.hid hpb
  have b8 := blk8 S5.p3.blk
  have hx1 : w3.cell? ⟨w1.heap.size, 1, none⟩ = some (.slice (some ⟨p.g, 0, none⟩) p.ks.length p.cap) := by rw [← hpb]; exact b8.2.1
  clear S1 S2 S3 S4 S5 hok hpb b8
  go_wp2_with fail
  rw [← HPB.out]
  clear HPB hl hd r0 r1 r2 rf hrlt hx1
  go_loopw [30] (fun v30 wr => ∃ i : Int, v30 = .int .i64 i ∧ 0 ≤ i ∧ i ≤ p.ks.length ∧ Hid (Sat w0 wr (mmap kb (dropF ps p i.toNat) * (pts r (.cells #[.map (some b), .map (some kb), .int .i64 n] 54 (0, 0)) * (pts pb (.cells #[.int .i64 p.h, p.e, .bool p.f2, .bool p.f3, .string p.f4, .bool p.f5, .int .i64 p.f6, .int .i64 p.c] 57 (0, 0)) * (p.row *
    (pts wb (.cells #[.int .i64 0, .slice none 0 0, .bool false, .bool false, .string ⟨#[]⟩, .bool false, .int .i64 0] 30 (0, 0)) * (gmap (Value.int .i64) b (byOf (dropH ps p.h)) * (star ((dropH ps p.h).map Pl.row) * R))))))))) (fun v30 _ => p.ks.length - (intOf v30).toNat)
  case atStart => exact ⟨0, rfl, by omega, by omega, HS5⟩
  case round =>
    clear HS5
    obtain ⟨i, rfl, g0, g1, HSr⟩ := hrel
    by_cases hlt : i < p.ks.length
    · have hi : i.toNat < p.ks.length := by omega
      obtain ⟨ad', e1, hx⟩ := Kd.at_string (Sat.row_at rfl HSr.out.p4) i g0 hlt
      cases e1
      have p0 := eq_true g0
      have p1 := eq_true hlt
      have hoff : ∀ k', k' ≠ p.ks[i.toNat] → dropF ps p (i.toNat + 1) k' = dropF ps p i.toNat k' := fun k' hne => dropF_off hi hne
      have hera : era (dropF ps p i.toNat p.ks[i.toNat]) p.c = dropF ps p (i.toNat + 1) p.ks[i.toNat] := by rw [dropF_at hi]; exact era_drop HOK.out HP.out _ _
      have hrd : rdOf ByteArray.empty p.ks i = p.ks[i.toNat] := by unfold rdOf; simp [List.getD_eq_getElem?_getD, hi]
      rw [hrd, Addr.add_lit, Nat.zero_add] at hx
      clear hrd
      generalize p.ks[i.toNat] = key at *
      obtain ⟨F', hF'⟩ : ∃ F', F' = dropF ps p (i.toNat + 1) := ⟨_, rfl⟩
      have HF' := Lib.hid hF'
      rw [← hF'] at hoff hera
      clear hF'
      generalize dropF ps p i.toNat = F at *
      have HOFF := Lib.hid hoff
      obtain ⟨r0, r1, r2, rf⟩ := blk3 HSr.out.p2.blk
      obtain ⟨-, -, -, -, -, -, -, a7, af⟩ := blk8 HSr.out.p3.blk
      by_cases hF : F key = []
      case' pos =>
        have hall : ∀ k', F k' = F' k' := fun k' => by
          by_cases e : k' = key
          · rw [e, ← hera, hF]; rfl
          · exact (hoff k' e).symm
        have hl := HSr.out.mmap_none hF kkm skey kkzero
        have hq2 := ineq none
        have S7 := HSr.out
        rw [mmap_cong hall] at S7
        have HS7 := Lib.hid S7
        clear S7 hall hF hoff hera HSr hi
        go_wp2_with fail
      case' neg =>
        obtain ⟨p0, hl, S5⟩ := HSr.out.mmap_some hF kkm skey kkzero
        have hq2 := ineq (some p0)
        obtain ⟨w6, hd6, S6⟩ := S5.run_delete (keys_int .i64) imap ikey p.c 0 3
        rw [hera] at S6
        obtain ⟨q0, q1, q2, qf⟩ := blk3 S6.p3.blk
        have hlen6 := S6.run_len imap 3
        by_cases hF2 : F' key = []
        case' pos =>
          obtain ⟨w7, hd7, S7⟩ := S6.p2.kbut_era hoff hF2 kkm skey 0 9
          have hz : ((F' key).length : Int) = 0 := by rw [hF2]; rfl
          rw [hz] at hlen6
          have HS7 := Lib.hid S7.p2.drop1
        case' neg =>
          have hz : ¬ ((F' key).length : Int) = 0 := by
            intro e; exact hF2 (List.eq_nil_of_length_eq_zero (by omega))
          have HS7 := Lib.hid (S6.kbut_close hoff rfl hF2)
        all_goals
          clear S5 S6 hF hF2 hoff hera HSr hi
          go_wp2_with fail
      all_goals
        go_roundw
        case rel => exact ⟨i + 1, rfl, by omega, by omega, by rw [show (i + 1).toNat = i.toNat + 1 from by omega, ← HF'.out]; exact HS7⟩
        case measure => simp [intOf]; omega
    · have hge : ¬ i < (p.ks.length : Int) := hlt
      have ei : i.toNat = p.ks.length := by omega
      rw [ei] at HSr
      clear hlt ei
      have S8 := HSr.out
      rw [dropF_all HOK.out HP.out] at S8
      obtain ⟨a0, a1, a2, a3, a4, a5, a6, a7, af⟩ := blk8 S8.p3.blk
      obtain ⟨d0, d1, d2, d3, d4, d5, d6, df⟩ := blk7 S8.p5.blk
      have S9 := ((((((S8.p5.setCell (i := 0) (.int .i64 p.h)).setCell (i := 1) p.e).setCell (i := 2) (.bool p.f2)).setCell (i := 3) (.bool p.f3)).setCell (i := 4) (.string p.f4)).setCell (i := 5) (.bool p.f5)).setCell (i := 6) (.int .i64 p.f6)
      have HB := Lib.hid S9.blk
      have HS9 : Hid (Sat w0 _ (wt r (dropH ps p.h) n * (p.row * R))) := Lib.hid (Sat.wt_shut (b := b) (kb := kb) (HOK.out.drop p.h) (S9.drop1.p3.drop1.cong (by ac_rfl)))
      clear HSr S8 S9
      go_wp2_with fail
      refine bodyPost_ret (results_ct rfl _ _ wb 30 _ (0, 0) _ rfl HB.out Try.underlying30 rfl wsize) rfl ?_
      exact ⟨rfl, HS9.out⟩
end Go.Sl
