/-
  The contract of package skip's Cut; rows of pairs.
  The contracts of package skip's functions: node, Cut.
  Rows of flat elements (structs of plain fields), owned: read, and handed on as made.
  The contract of package skip's Drop.
  The contract of package skip's Put.
-/
import Derived.Test.YteakblblpiihpaaMgB
/-! ### SkH -/
namespace Go.Sl
open Go.RowKit Go.Proofs Go.Sl Go.Proofs.YteakblblpiihpaaW.PrintWords Go.Proofs.Yteakblblpiihpaa.PZs
set_option linter.unusedVariables false
set_option linter.unusedSimpArgs false
set_option maxRecDepth 100000

theorem sks_lt {w0 w : World} {TN TL : Nat} {L : Lk} {ns : List SN} {R : HP} (S : Sat w0 w (sks TN TL L ns * R)) : ∀ y ∈ ns, y.b < w.heap.size := by
  intro y hy
  obtain ⟨pre, post, rfl⟩ := List.append_of_mem hy
  have S1 := S.sks_at
  unfold snode at S1
  rw [sep_assoc] at S1
  exact S1.lt
/-- The two cells of a link are stored. -/
theorem link_put {w0 w : World} {TN TL k : Nat} {L : Lk} {pre post : List SN} {x : SN} {R : HP} (hk : k < x.h) (hn : ((pre ++ x :: post).map (·.b)).Nodup) (u v : Value) (S : Sat w0 w (sks TN TL L (pre ++ x :: post) * R)) :
    w.cell? ⟨x.g, k * 2, none⟩ = some (L x.b k).1 ∧ w.cell? ⟨x.g, k * 2 + 1, none⟩ = some (L x.b k).2 ∧ (∀ i, w.frozen? ⟨x.g, i, none⟩ = false) ∧
    (w.setCell ⟨x.g, k * 2, none⟩ u).cell? ⟨x.g, k * 2 + 1, none⟩ = some (L x.b k).2 ∧ (∀ i, (w.setCell ⟨x.g, k * 2, none⟩ u).frozen? ⟨x.g, i, none⟩ = false) ∧
    Sat w0 ((w.setCell ⟨x.g, k * 2, none⟩ u).setCell ⟨x.g, k * 2 + 1, none⟩ v) (sks TN TL (upBy1 (upTo1 L x.b k u) x.b k v) (pre ++ x :: post) * R) := by
  obtain ⟨a, b, c, d, _⟩ := S.sks_link hk hn
  obtain ⟨a', b', c', _, e⟩ := (d u).sks_link hk hn
  refine ⟨a, b, c, ?_, c', e v⟩
  rw [b']
  unfold upTo1
  simp
set_option maxHeartbeats 8000000 in
/-- 'Put', of a pair that is there. -/
theorem skPut_old {w0 w : World} {o n : Nat} {seed : Int} {hd : SN} {A B : List SN} {L : Lk} {x : Sc} {R : HP} (hh : headIs B x = true) (hok : SkOk hd (A ++ B) L) (hA : ∀ y ∈ A, ltS y.sc x = true) (hB : ∀ y ∈ B, ltS y.sc x = false) (S : Sat w0 w (skl o seed hd (A ++ B) L n * R)) :
    Calls Try.prog 40 #[pt o, .agg #[.string x.f0, .int .i64 x.f1]] w fun en w' => en = .returned (.bool false) ∧ Sat w0 w' (skl o seed hd (A ++ B) L n * R) := by
  obtain ⟨xb, hxb⟩ : ∃ xb, xb = w.heap.size := ⟨_, rfl⟩
  have S0 := (S.alloc (scO x))
  rw [← hxb] at S0
  have HS0 := Lib.hid S0
  have HXB := Lib.hid hxb
  have HOK := Lib.hid hok
  have HA := Lib.hid hA
  have HB := Lib.hid hB
  have HH := Lib.hid hh
  clear S S0 hxb hok hA hB hh
  go_enter Try.func40, Try.ntmps40
  go_upto_region 1 with (fail)
  rw [← HXB.out]
  refine gen_w HS0.out ?_
  clear HS0 HXB
  intro w1 S1
  obtain ⟨z0, z1, -⟩ := blk2 S1.blk
  have HS1 := Lib.hid S1
  clear S1
  go_wp2_with fail
  refine (skReady HS1.out.p2).mono ?_
  rintro en w' ⟨rfl, rfl⟩
  go_wp2_with fail
  refine (skTo HOK.out HA.out HB.out HS1.out.p2).mono ?_
  rintro en w2 ⟨tr, htr, rfl, S2⟩
  have HTR := Lib.hid htr
  obtain ⟨tb, htb⟩ : ∃ tb, tb = w2.heap.size := ⟨_, rfl⟩
  have S3 := (S2.alloc (.cells (trC (fun _ => .pointer none) (fun _ => .int .i64 0)).toArray 130)).cong (show _ = _ from rfl)
  have hth := trS_there (f' := fun k => pt (tr k).1.b) (g' := fun k => .int .i64 (tr k).2) S3
  have S4 := S3.trS_put (fun k => pt (tr k).1.b) (fun k => .int .i64 (tr k).2)
  rw [trZ] at hth S4
  have HTH := Lib.hid hth
  rw [← htb] at S4
  have HS4 := Lib.hid S4
  have HTB := Lib.hid htb
  clear S2 S3 S4 htr HS1 z0 z1 htb hth
  go_upto_region 4 with (with_reducible refine wpList_store_mid rfl 130 (.tmp 5) (.tmp 15) rfl w2.heap.size 0 (trV tr).toArray rfl rfl HTH.out (trsize _ _) (trV_one tr) ?_)
  rw [← HTB.out]
  refine gen_w HS4.out ?_
  clear HS4 HTB HTH
  intro w3 S3
  obtain ⟨z0, z1, -⟩ := blk2 S3.p3.blk
  have HS5 : Hid (Sat w0 w3 (pts tb (trO tr) * (skl o seed hd (A ++ B) L n * (pts xb (scO x) * R)))) := Lib.hid S3
  clear S3
  simp only [Act.put]
  go_wp2_with fail
  refine (skHas HOK.out (HTR.out 0 (by decide)) HS5.out).mono ?_
  rintro en w4 ⟨rfl, S6⟩
  rw [HH.out]
  have HS6 := Lib.hid S6.drop1
  clear S6 HS5 z0 z1
  go_wp2_with fail
  go_ret
  exact ⟨rfl, HS6.out.p2.drop1⟩
set_option maxHeartbeats 8000000 in
/-- 'Put', of a pair that is new. -/
theorem skPut_new {w0 w : World} {o n : Nat} {seed : Int} {hd : SN} {A B : List SN} {L : Lk} {x : Sc} {R : HP} (hn : n = (A ++ B).length) (hb : n < 1000000000000) (hk : x.f0.size ≤ maxLen) (hh : headIs B x = false) (hok : SkOk hd (A ++ B) L) (hA : ∀ y ∈ A, ltS y.sc x = true) (hB : ∀ y ∈ B, ltS y.sc x = false) (S : Sat w0 w (skl o seed hd (A ++ B) L n * R)) :
    Calls Try.prog 40 #[pt o, .agg #[.string x.f0, .int .i64 x.f1]] w fun en w' => en = .returned (.bool true) ∧ ∃ nw L', nw.sc = x ∧ SkOk hd (A ++ nw :: B) L' ∧ Sat w0 w' (skl o seed hd (A ++ nw :: B) L' (n + 1) * R) := by
  obtain ⟨xb, hxb⟩ : ∃ xb, xb = w.heap.size := ⟨_, rfl⟩
  have S0 := (S.alloc (scO x))
  rw [← hxb] at S0
  have HS0 := Lib.hid S0
  have HXB := Lib.hid hxb
  have HOK := Lib.hid hok
  have HA := Lib.hid hA
  have HB := Lib.hid hB
  have HH := Lib.hid hh
  have HN := Lib.hid hn
  have HBG := Lib.hid hb
  have HK := Lib.hid hk
  clear S S0 hxb hok hA hB hh hn hb hk
  go_enter Try.func40, Try.ntmps40
  go_upto_region 1 with (fail)
  rw [← HXB.out]
  refine gen_w HS0.out ?_
  clear HS0 HXB
  intro w1 S1
  obtain ⟨z0, z1, -⟩ := blk2 S1.blk
  have HS1 := Lib.hid S1
  clear S1
  go_wp2_with fail
  refine (skReady HS1.out.p2).mono ?_
  rintro en w' ⟨rfl, rfl⟩
  go_wp2_with fail
  refine (skTo HOK.out HA.out HB.out HS1.out.p2).mono ?_
  rintro en w2 ⟨tr, htr, rfl, S2⟩
  have HTR := Lib.hid htr
  obtain ⟨tb, htb⟩ : ∃ tb, tb = w2.heap.size := ⟨_, rfl⟩
  have S3 := (S2.alloc (.cells (trC (fun _ => .pointer none) (fun _ => .int .i64 0)).toArray 130)).cong (show _ = _ from rfl)
  have hth := trS_there (f' := fun k => pt (tr k).1.b) (g' := fun k => .int .i64 (tr k).2) S3
  have S4 := S3.trS_put (fun k => pt (tr k).1.b) (fun k => .int .i64 (tr k).2)
  rw [trZ] at hth S4
  have HTH := Lib.hid hth
  rw [← htb] at S4
  have HS4 := Lib.hid S4
  have HTB := Lib.hid htb
  clear S2 S3 S4 htr HS1 z0 z1 htb hth
  go_upto_region 4 with (with_reducible refine wpList_store_mid rfl 130 (.tmp 5) (.tmp 15) rfl w2.heap.size 0 (trV tr).toArray rfl rfl HTH.out (trsize _ _) (trV_one tr) ?_)
  rw [← HTB.out]
  refine gen_w HS4.out ?_
  clear HS4 HTB HTH
  intro w3 S3
  obtain ⟨z0, z1, -⟩ := blk2 S3.p3.blk
  have HS5 : Hid (Sat w0 w3 (pts tb (trO tr) * (skl o seed hd (A ++ B) L n * (pts xb (scO x) * R)))) := Lib.hid S3
  clear S3
  simp only [Act.put]
  go_wp2_with fail
  refine (skHas HOK.out (HTR.out 0 (by decide)) HS5.out).mono ?_
  rintro en w4 ⟨rfl, S6⟩
  rw [HH.out]
  have HS6 := Lib.hid S6
  clear HS5 z0 z1
  obtain ⟨z0, z1, -⟩ := blk2 S6.p3.blk
  clear S6
  go_wp2_with fail
  go_region_held3 (fun w' => w'.cell? ⟨xb, 0, none⟩ = some (.string x.f0) ∧ w'.cell? ⟨xb, 1, none⟩ = some (.int .i64 x.f1)) (first | exact ⟨z0, z1⟩ | exact ⟨Lib.cell?_alloc_some _ (Lib.cell?_alloc_some _ z0), Lib.cell?_alloc_some _ (Lib.cell?_alloc_some _ z1)⟩ | exact ⟨Lib.cell?_alloc_some _ z0, Lib.cell?_alloc_some _ z1⟩)
    ((go_at_call 66; refine (skHeight HK.out HS6.out.drew.p2).mono ?_; rintro en w' ⟨⟨h, h1, h2, rfl⟩, rfl⟩; have hr := fun w => run_links w h h2))
  -- MARK
  obtain ⟨mg, hmg⟩ : ∃ mg, mg = w4.heap.size := ⟨_, rfl⟩
  obtain ⟨nw, hnw⟩ : ∃ nw : SN, nw = ⟨mg + 1, mg, x.f0, x.f1, h⟩ := ⟨_, rfl⟩
  obtain ⟨L1, hL1⟩ : ∃ L1 : Lk, L1 = fun b => if b = mg + 1 then L0 else L b := ⟨_, rfl⟩
  have hfr : ∀ y ∈ hd :: (A ++ B), y.b < mg := fun y hy => by rw [hmg]; exact sks_lt (skl_sks HS6.out.p2) y hy
  have S7 := ((HS6.out.alloc (.cells (lks h L0).toArray sL)).alloc (.cells #[.string x.f0, .int .i64 x.f1, .slice (some ⟨mg, 0, none⟩) h h] sN)).drew
  simp only [World.size_alloc] at S7
  rw [← hmg] at S7
  have hoff : ∀ y ∈ hd :: (A ++ B), L y.b = L1 y.b := fun y hy => by
    have := hfr y hy
    rw [hL1]
    simp only
    rw [if_neg (by omega)]
  have S8 := Sat.cong (B := pts tb (trO tr) * (pts o (.cells #[.int .u64 seed, pt hd.b, .int .i64 n] 139 (0, 0)) * (sks sN sL L1 (hd :: (A ++ nw :: B)) * (pts xb (scO x) * R)))) S7 (by
    have e1 : sks sN sL L1 (hd :: (A ++ nw :: B)) = snode sN sL L1 nw * sks sN sL L (hd :: (A ++ B)) := by
      rw [sks_congr hoff, sks_cons, sks_cons, sks_mid, sks_append]
      ac_rfl
    rw [e1]
    unfold skl snode
    rw [hnw, hL1]
    simp only [if_true]
    ac_rfl)
  have hnd : ((hd :: (A ++ nw :: B)).map (·.b)).Nodup := by
    have := HOK.out.nd
    have hp : (hd :: (A ++ nw :: B)).Perm (nw :: hd :: (A ++ B)) := (List.perm_middle (l₁ := hd :: A)).trans (List.Perm.refl _)
    refine ((hp.map _).nodup_iff).2 ?_
    rw [List.map_cons, List.nodup_cons]
    refine ⟨fun hm => ?_, this⟩
    obtain ⟨y, hy, e⟩ := List.mem_map.1 hm
    have := hfr y hy
    rw [hnw] at e
    simp only at e
    omega
  have hnwb : ∀ y ∈ hd :: (A ++ B), y.b ≠ nw.b := fun y hy e => by
    have := hfr y hy
    rw [hnw] at e
    simp only at e
    omega
  have HS8 := Lib.hid S8
  have HND := Lib.hid hnd
  have HNWB := Lib.hid hnwb
  have HNW := Lib.hid hnw
  have HOFF := Lib.hid hoff
  have HMG := Lib.hid hmg
  have HL1 := Lib.hid hL1
  clear S7 S8 hfr hoff hnd hnwb hnw HS6 hr z0 z1 hmg hL1
  rw [← HMG.out]
  refine gen_w HS8.out ?_
  clear HS8
  intro w5 S5
  have HS5 := Lib.hid S5
  clear S5
  have ehh : nw.h = h := by rw [HNW.out]
  have HE := Lib.hid ehh
  clear ehh
  go_wp2_with fail
  go_loopg [26] 17 (fun kq v26 wr => ∃ (k : Nat) (Lk : Lk), v26 = .int .i64 k ∧ Hid (k ≤ 16 ∧ kq = 17 - k) ∧ Hid (∀ j < k, GoodAt j (hd :: (A ++ nw :: B)) Lk) ∧ Hid (∀ j, k ≤ j → ∀ y ∈ hd :: (A ++ B), Lk y.b j = L y.b j) ∧
    Hid (Sat w0 wr (pts tb (trO tr) * (pts o (.cells #[.int .u64 seed, pt hd.b, .int .i64 n] 139 (0, 0)) * (sks sN sL Lk (hd :: (A ++ nw :: B)) * (pts xb (scO x) * R))))))
  case atStart => exact ⟨0, L1, rfl, Lib.hid ⟨by omega, rfl⟩, Lib.hid (fun j hj => by omega), Lib.hid (fun j _ y hy => by rw [HOFF.out y hy]), HS5⟩
  case round =>
    clear HS5 HOFF HL1
    obtain ⟨k, Lk, rfl, HI, HG, HU, HSr⟩ := hrel
    by_cases hlt : k < 16
    · obtain ⟨pre, M, hA1, hr1, hkx, hM⟩ := HTR.out k hlt
      obtain ⟨xk, hxk⟩ : ∃ xk, xk = (tr k).1 := ⟨_, rfl⟩
      rw [← hxk] at hA1 hkx
      have hcut : hd :: (A ++ nw :: B) = pre ++ xk :: (M ++ nw :: B) := by rw [← List.cons_append, hA1]; simp
      have hcut0 : hd :: (A ++ B) = pre ++ xk :: (M ++ B) := by rw [← List.cons_append, hA1]; simp
      have hxm : xk ∈ hd :: (A ++ B) := by rw [hcut0]; simp
      have hx16 := sk_top HOK.out hxm
      have hold : Lk xk.b k = L xk.b k := HU.out k (Nat.le_refl k) xk hxm
      have hform := good_form (L := L) hkx (hcut0 ▸ HOK.out.good k hlt)
      have hk0 : (0 : Int) ≤ (k : Int) := by omega
      have hklt : (k : Int) < 16 := by omega
      have hkl : (k : Int) < (xk.h : Int) := by omega
      have t0 := cell_of HSr.out.blk k (v := pt (tr k).1.b) (by simpa using trC_at (f := fun k => pt (tr k).1.b) (g := fun k => .int .i64 (tr k).2) hlt)
      have t1 := cell_of HSr.out.blk 16 (v := .int .i64 (tr 0).2) (by simpa using trC_rank (f := fun k => pt (tr k).1.b) (g := fun k => .int .i64 (tr k).2) (k := 0) (by decide))
      have t2 := cell_of HSr.out.blk (16 + k) (v := .int .i64 (tr k).2) (by simpa using trC_rank (f := fun k => pt (tr k).1.b) (g := fun k => .int .i64 (tr k).2) hlt)
      rw [← hxk] at t0
      have S1 := HSr.out.p3
      have S1' := S1
      rw [hcut] at S1
      obtain ⟨x0, x1, x2⟩ := S1.sks_at.snode_cells
      obtain ⟨y0, y1, y2⟩ := (show Sat w0 wr (snode sN sL Lk nw * _) from (by
        have e : hd :: (A ++ nw :: B) = (hd :: A) ++ nw :: B := rfl
        rw [e] at S1'
        exact S1'.sks_at)).snode_cells
      have y2' : wr.cell? ⟨mg + 1, 2, none⟩ = some (.slice (some ⟨mg, 0, none⟩) h h) := by rw [HNW.out] at y2; exact y2
      have hnd2 := HND.out
      rw [hcut] at hnd2
      have hmid := nodup_mid hnd2
      have hbig : (M ++ B).length ≤ 1000000000000 := by
        have := HOK.out.big
        have e := congrArg List.length hcut0
        simp only [List.length_cons, List.length_append] at e this ⊢
        omega
      have HCUT := Lib.hid hcut
      have HCUT0 := Lib.hid hcut0
      have HMID := Lib.hid hmid
      have HM := Lib.hid hM
      have HKX := Lib.hid hkx
      have HOLD := Lib.hid hold
      have HND2 := Lib.hid hnd2
      have hpb : ∀ z ∈ pre ++ B, z ∈ hd :: (A ++ B) := fun z hz => by
        rw [hcut0]
        rcases List.mem_append.1 hz with h' | h'
        · simp [h']
        · simp [h']
      have HPB := Lib.hid hpb
      clear hcut hcut0 hmid hM hnd2 hxm hpb hx16
      by_cases hge : h ≤ k
      · have hged : decide ((h : Int) ≤ (k : Int)) = true := by simpa using hge
        have hged2 : decide (h ≤ k) = true := by simpa using hge
        have HGE : Hid (nw.h ≤ k) := Lib.hid (by rw [HE.out]; exact hge)
        obtain ⟨c1, c2, cf, -, SB⟩ := S1.sks_link hkx HND2.out
        rw [hold] at c1 c2
        rcases hform with ⟨j, hf, -⟩ | ⟨y, d, hf, hnx⟩
        · rw [hf] at c1 c2
          simp only at c1 c2
          have HF := Lib.hid hf
          clear hf hold S1 S1' SB y0 y1 y2 hge hkx hr1 hA1 hxk
          go_wp2_with fail
          go_roundg (17 - (k + 1))
          case measure => have := HI.out; omega
          case rel =>
            refine ⟨k + 1, Lk, by go_num, Lib.hid ⟨by omega, rfl⟩, Lib.hid fun j hj => ?_, Lib.hid fun j hj => HU.out j (by omega), HSr⟩
            by_cases e : j = k
            · subst e
              rw [HCUT.out]
              exact good_put_over HKX.out HM.out HGE.out (HCUT0.out ▸ HOK.out.good j hlt) (fun z hz => HU.out j (Nat.le_refl j) z (HPB.out z hz)) (by rw [HOLD.out, HF.out]; rfl)
            · exact HG.out j (by omega)
        · rw [hf] at c1 c2
          simp only at c1 c2
          have hdle := (nx_le hnx).1
          have hdd : (d : Int) ≤ 1000000000000 := by omega
          have S9 := SB (.int .i64 ((d : Int) + 1))
          have HS9 := Lib.hid S9
          have HF := Lib.hid hf
          clear hf hold S1 S1' SB S9 y0 y1 y2 hge hkx hr1 hA1 hxk hnx hdle
          go_wp2_with fail
          go_roundg (17 - (k + 1))
          case measure => have := HI.out; omega
          case rel =>
            refine ⟨k + 1, _, by go_num, Lib.hid ⟨by omega, rfl⟩, Lib.hid fun j hj => ?_, Lib.hid fun j hj y hy => ?_, Lib.hid ((HS9.out.cong (by rw [← HCUT.out])).p3.p3)⟩
            · by_cases e : j = k
              · subst e
                rw [HCUT.out]
                refine good_put_over HKX.out HM.out HGE.out (HCUT0.out ▸ HOK.out.good j hlt) (fun z hz => ?_) ?_
                · rw [up2_off (HMID.out z (by rcases List.mem_append.1 hz with h' | h' <;> simp [h']))]
                  exact HU.out j (Nat.le_refl j) z (HPB.out z hz)
                · rw [updBy_eq]
                  simp only [and_self, if_true]
                  rw [HOLD.out, HF.out]
                  rfl
              · refine goodAt_same (fun z _ => ?_) (HG.out j (by omega))
                rw [updBy_eq]
                simp only
                rw [if_neg (fun h' => e h'.2)]
            · rw [updBy_eq]
              simp only
              rw [if_neg (fun h' => by omega)]
              exact HU.out j (by omega) y hy
      · have hged : decide ((h : Int) ≤ (k : Int)) = false := by simpa using hge
        have hged2 : decide (h ≤ k) = false := by simpa using hge
        have HGE : Hid (k < nw.h) := Lib.hid (by rw [HE.out]; omega)
        obtain ⟨c1, c2, cf, -, -⟩ := S1.sks_link hkx HND2.out
        rw [hold] at c1 c2
        have hr0 : (tr 0).2 = pre.length + M.length := by
          obtain ⟨_, _, hr⟩ := tr_low HOK.out (HTR.out 0 (by decide))
          have e := congrArg List.length hA1
          simp only [List.length_cons, List.length_append] at e
          omega
        rw [hr0] at t1
        rw [← hr1] at t2
        obtain ⟨u0, n0, hf⟩ : ∃ u0 n0, L xk.b k = (.pointer u0, .int .i64 n0) := by
          rcases hform with ⟨j, hf, -⟩ | ⟨y, d, hf, -⟩
          · exact ⟨_, _, hf⟩
          · exact ⟨_, _, hf⟩
        rw [hf] at c1 c2
        simp only at c1 c2
        have HFORM := Lib.hid hform
        have HF := Lib.hid hf
        have hhk : (k : Int) < (h : Int) := by omega
        obtain ⟨P, hP⟩ : ∃ P, P = pre.length := ⟨_, rfl⟩
        obtain ⟨Q, hQ⟩ : ∃ Q, Q = M.length := ⟨_, rfl⟩
        rw [← hP, ← hQ] at t1
        rw [← hP] at t2
        have HQ := Lib.hid hQ
        have hPb : (P : Int) ≤ 1000000000001 := by
          have := HOK.out.big
          have e := congrArg List.length hA1
          simp only [List.length_cons, List.length_append] at e this
          omega
        have hQb : (Q : Int) ≤ 1000000000001 := by
          rw [List.length_append] at hbig
          omega
        have h14 : ((P + Q : Nat) : Int) - (P : Int) = (Q : Int) := by omega
        have H14 := Lib.hid h14
        clear hf hold hform S1' y0 y1 y2 hge hkx hr1 hr0 hA1 hxk hP hQ h14
        go_upto_region 14 with (fail)
        go_region
        rw [show (P : Int) + (Q : Int) - (P : Int) = (Q : Int) by omega]
        clear c1 c2 cf t0 t1 t2 x0 x1 x2 y2' S1 H14
        refine gen_w HSr.out.drew ?_
        clear HSr
        intro w6 S6
        have S6n := S6.p3
        have S6x := S6n
        rw [show hd :: (A ++ nw :: B) = (hd :: A) ++ nw :: B from rfl] at S6n
        rw [HCUT.out] at S6x
        have hndn := HND.out
        rw [show hd :: (A ++ nw :: B) = (hd :: A) ++ nw :: B from rfl] at hndn
        obtain ⟨-, -, y2⟩ := S6n.sks_at.snode_cells
        obtain ⟨c1, c2, cf, -, -⟩ := S6x.sks_link HKX.out HND2.out
        rw [HOLD.out, HF.out] at c1 c2
        simp only at c1 c2
        obtain ⟨m1, m2, mf, m3, mf2, SM⟩ := link_put HGE.out hndn (.pointer u0) (.int .i64 (wrap64 (n0 - Q))) S6n
        have e1 : nw.b = mg + 1 := by rw [HNW.out]
        have e2 : nw.g = mg := by rw [HNW.out]
        rw [e2] at m1 m2 mf m3 mf2 SM
        rw [e1, e2, HE.out] at y2
        have HSM := Lib.hid SM
        have HE1 := Lib.hid e1
        clear S6 S6n S6x SM hndn e1 e2
        go_wp2_with fail
        go_region
        clear y2 c1 c2 cf m1 m2 mf m3 mf2
        refine gen_w HSM.out.drew ?_
        clear HSM
        intro w7 S7
        have S7x := S7
        rw [show (hd :: A) ++ nw :: B = hd :: (A ++ nw :: B) from rfl, HCUT.out] at S7x
        obtain ⟨c1, c2, cf, c3, cf2, SX⟩ := link_put HKX.out HND2.out (pt (mg + 1)) (.int .i64 ((Q : Int) + 1)) S7x
        have HSX := Lib.hid SX
        have hxnw : xk.b ≠ nw.b := HNWB.out xk (by rw [HCUT0.out]; simp)
        have HXNW := Lib.hid hxnw
        clear S7 S7x SX hxnw
        go_wp2_with fail
        go_roundg (17 - (k + 1))
        case measure => have := HI.out; omega
        case rel =>
          refine ⟨k + 1, _, by go_num, Lib.hid ⟨by omega, rfl⟩, Lib.hid fun j hj => ?_, Lib.hid fun j hj y hy => ?_, Lib.hid ((HSX.out.cong (by rw [← HCUT.out])).p3.p3)⟩
          · by_cases e : j = k
            · subst e
              rw [HCUT.out]
              refine good_put_in HKX.out HM.out HGE.out (HCUT0.out ▸ HOK.out.good j hlt) (fun z hz => ?_) ?_ (fun n hn => ?_)
              · rw [upd2_eq, upd2_eq]
                simp only
                rw [if_neg (fun h' => HMID.out z (by rcases List.mem_append.1 hz with h' | h' <;> simp [h']) h'.1), if_neg (fun h' => HNWB.out z (HPB.out z hz) h'.1)]
                exact HU.out j (Nat.le_refl j) z (HPB.out z hz)
              · rw [upd2_eq]
                simp only [and_self, if_true]
                rw [HQ.out, HE1.out]
              · rw [upd2_eq, upd2_eq]
                simp only
                rw [if_neg (fun h' => HXNW.out h'.1.symm), if_pos ⟨trivial, trivial⟩]
                rw [HF.out] at hn ⊢
                simp only [Value.int.injEq, true_and] at hn
                subst hn
                rcases HFORM.out with ⟨j', hf, -⟩ | ⟨y, d, hf, hnx⟩
                · right
                  rw [HF.out] at hf
                  simp only [Prod.mk.injEq] at hf
                  simp only
                  rw [hf.1]
                  exact ⟨rfl, _, rfl⟩
                · left
                  rw [HF.out] at hf
                  simp only [Prod.mk.injEq, Value.int.injEq, true_and] at hf
                  have hdle := (nx_le hnx).1
                  have hq := HQ.out
                  simp only [Prod.mk.injEq, Value.int.injEq, true_and]
                  rw [← hq, hf.2]
                  unfold wrap64
                  omega
            · refine goodAt_same (fun z _ => ?_) (HG.out j (by omega))
              rw [upd2_eq, upd2_eq]
              simp only
              rw [if_neg (fun h' => e h'.2), if_neg (fun h' => e h'.2)]
          · rw [upd2_eq, upd2_eq]
            simp only
            rw [if_neg (fun h' => by omega), if_neg (fun h' => by omega)]
            exact HU.out j (by omega) y hy
    · have hk16 : k = 16 := by have := HI.out.1; omega
      subst hk16
      clear hlt
      have S1 := HSr.out.p2
      obtain ⟨q0, q1, q2, qf⟩ := blk3 S1.blk
      have S2 := S1.setCell (i := 2) (.int .i64 ((n : Int) + 1))
      have HS2 := Lib.hid S2
      have hbi : (n : Int) < 1000000000000 := by have := HBG.out; omega
      clear S1 S2
      go_wp2_with fail
      go_ret
      refine ⟨rfl, nw, Lk, by rw [HNW.out], ⟨HOK.out.hh, HND.out, fun j hj => HG.out j hj, fun y hy => ?_, ?_⟩, ?_⟩
      · rcases List.mem_append.1 hy with h' | h'
        · exact HOK.out.hts y (by simp [h'])
        · rcases List.mem_cons.1 h' with rfl | h'
          · rw [HE.out]; exact ⟨h1, h2⟩
          · exact HOK.out.hts y (by simp [h'])
      · have := HN.out
        have := HBG.out
        simp only [List.length_append, List.length_cons] at *
        omega
      · refine Sat.drop1 (A := pts tb (trO tr)) (Sat.drop1 (A := pts xb (scO x)) (HS2.out.cong ?_))
        unfold skl
        simp only [List.setIfInBounds_toArray, List.set_cons_succ, List.set_cons_zero]
        rw [show ((n + 1 : Nat) : Int) = (n : Int) + 1 by omega]
        ac_rfl
end Go.Sl
/-! ### SkI -/
namespace Go.Sl
open Go.RowKit Go.Proofs Go.Sl Go.Proofs.YteakblblpiihpaaW.PrintWords Go.Proofs.Yteakblblpiihpaa.PZs
set_option linter.unusedVariables false
set_option linter.unusedSimpArgs false
set_option maxRecDepth 100000

section
variable {P : Program} (w : World)
theorem run_eql_ptr_same {tp te : TypeId} {j : TypeInfo} (a : Addr) (hp : P.underlying tp = some (.pointer te)) (hte : P.info? te = some j) :
    (binOp .eql tp (.pointer (some a)) (.pointer (some a))).run P w = .ok (.bool true) w := by
  have h : ∀ d : Nat, (Op.equalIn (d + 1) tp (.pointer (some a)) (.pointer (some a))).run P w = .ok true w := fun d => by
    simp [Op.equalIn, run_underlying hp, sizeOf, typeInfo, hte, run_sameAddr_same]
  simp only [binOp]
  simp [Op.equal, Op.maxDepth, h 9999]
theorem run_eql_ptr_other {tp te : TypeId} {j : TypeInfo} {a b : Addr} {ca cb : Array Value} {ta tb : TypeId} (hp : P.underlying tp = some (.pointer te)) (hte : P.info? te = some j) (hsz : j.size ≠ 0)
    (hne : a ≠ b) (ha : w.heap[a.block]? = some (.cells ca ta (0, 0))) (hb : w.heap[b.block]? = some (.cells cb tb (0, 0))) :
    (binOp .eql tp (.pointer (some a)) (.pointer (some b))).run P w = .ok (.bool false) w := by
  have h : ∀ d : Nat, (Op.equalIn (d + 1) tp (.pointer (some a)) (.pointer (some b))).run P w = .ok false w := fun d => by
    simp [Op.equalIn, run_underlying hp, sizeOf, typeInfo, hte, hsz, run_sameAddr_other w hne ha hb]
  simp only [binOp]
  simp [Op.equal, Op.maxDepth, h 9999]
theorem run_eql_nil_ptr {tp te : TypeId} {j : TypeInfo} (a : Addr) (hp : P.underlying tp = some (.pointer te)) (hte : P.info? te = some j) :
    (binOp .eql tp (.pointer none) (.pointer (some a))).run P w = .ok (.bool false) w := by
  have h : ∀ d : Nat, (Op.equalIn (d + 1) tp (.pointer none) (.pointer (some a))).run P w = .ok false w := fun d => by
    simp [Op.equalIn, run_underlying hp, sizeOf, typeInfo, hte]
  simp only [binOp]
  simp [Op.equal, Op.maxDepth, h 9999]
end
theorem skPtr : Try.prog.underlying 126 = some (.pointer sN) := Try.underlying126
theorem skInfo : ∃ j, Try.prog.info? sN = some j ∧ j.size ≠ 0 := by
  have h : (Try.prog.info? sN).map (fun i => i.size) = some 4 ∨ (Try.prog.info? sN).map (fun i => i.size) = some 3 := by first | exact .inr (by kernel_rfl) | exact .inl (by kernel_rfl)
  rcases h with h | h
  · obtain ⟨j, hj, hs⟩ := Option.map_eq_some_iff.1 h
    exact ⟨j, hj, by omega⟩
  · obtain ⟨j, hj, hs⟩ := Option.map_eq_some_iff.1 h
    exact ⟨j, hj, by omega⟩
theorem sks_blk {w0 w : World} {TN TL : Nat} {L : Lk} {ns : List SN} {R : HP} (S : Sat w0 w (sks TN TL L ns * R)) : ∀ y ∈ ns, ∃ c, w.heap[y.b]? = some (.cells c TN (0, 0)) := by
  intro y hy
  obtain ⟨pre, post, rfl⟩ := List.append_of_mem hy
  have S1 := S.sks_at
  unfold snode at S1
  rw [sep_assoc] at S1
  exact ⟨_, S1.blk⟩
set_option maxHeartbeats 8000000 in
/-- 'Drop', of a pair that is not there. -/
theorem skDrop_none {w0 w : World} {o n : Nat} {seed : Int} {hd : SN} {A B : List SN} {L : Lk} {x : Sc} {R : HP} (hh : headIs B x = false) (hok : SkOk hd (A ++ B) L) (hA : ∀ y ∈ A, ltS y.sc x = true) (hB : ∀ y ∈ B, ltS y.sc x = false) (S : Sat w0 w (skl o seed hd (A ++ B) L n * R)) :
    Calls Try.prog 39 #[pt o, .agg #[.string x.f0, .int .i64 x.f1]] w fun en w' => en = .returned (.bool false) ∧ Sat w0 w' (skl o seed hd (A ++ B) L n * R) := by
  obtain ⟨xb, hxb⟩ : ∃ xb, xb = w.heap.size := ⟨_, rfl⟩
  have S0 := (S.alloc (scO x))
  rw [← hxb] at S0
  have HS0 := Lib.hid S0
  have HXB := Lib.hid hxb
  have HOK := Lib.hid hok
  have HA := Lib.hid hA
  have HB := Lib.hid hB
  have HH := Lib.hid hh
  clear S S0 hxb hok hA hB hh
  go_enter Try.func39, Try.ntmps39
  go_upto_region 1 with (fail)
  rw [← HXB.out]
  refine gen_w HS0.out ?_
  clear HS0 HXB
  intro w1 S1
  obtain ⟨z0, z1, -⟩ := blk2 S1.blk
  have HS1 := Lib.hid S1
  clear S1
  go_wp2_with fail
  refine (skReady HS1.out.p2).mono ?_
  rintro en w' ⟨rfl, rfl⟩
  go_wp2_with fail
  refine (skTo HOK.out HA.out HB.out HS1.out.p2).mono ?_
  rintro en w2 ⟨tr, htr, rfl, S2⟩
  have HTR := Lib.hid htr
  obtain ⟨tb, htb⟩ : ∃ tb, tb = w2.heap.size := ⟨_, rfl⟩
  have S3 := (S2.alloc (.cells (trC (fun _ => .pointer none) (fun _ => .int .i64 0)).toArray 130)).cong (show _ = _ from rfl)
  have hth := trS_there (f' := fun k => pt (tr k).1.b) (g' := fun k => .int .i64 (tr k).2) S3
  have S4 := S3.trS_put (fun k => pt (tr k).1.b) (fun k => .int .i64 (tr k).2)
  rw [trZ] at hth S4
  have HTH := Lib.hid hth
  rw [← htb] at S4
  have HS4 := Lib.hid S4
  have HTB := Lib.hid htb
  clear S2 S3 S4 htr HS1 z0 z1 htb hth
  go_upto_region 4 with (with_reducible refine wpList_store_mid rfl 130 (.tmp 5) (.tmp 14) rfl w2.heap.size 0 (trV tr).toArray rfl rfl HTH.out (trsize _ _) (trV_one tr) ?_)
  rw [← HTB.out]
  refine gen_w HS4.out ?_
  clear HS4 HTB HTH
  intro w3 S3
  obtain ⟨z0, z1, -⟩ := blk2 S3.p3.blk
  have HS5 : Hid (Sat w0 w3 (pts tb (trO tr) * (skl o seed hd (A ++ B) L n * (pts xb (scO x) * R)))) := Lib.hid S3
  clear S3
  simp only [Act.put]
  go_wp2_with fail
  refine (skHas HOK.out (HTR.out 0 (by decide)) HS5.out).mono ?_
  rintro en w4 ⟨rfl, S6⟩
  rw [HH.out]
  have HS6 := Lib.hid S6.drop1
  clear S6 HS5 z0 z1
  go_wp2_with fail
  go_ret
  exact ⟨rfl, HS6.out.p2.drop1⟩
set_option maxHeartbeats 8000000 in
/-- 'Drop', of a pair that is there. -/
theorem skDrop_one {w0 w : World} {o n : Nat} {seed : Int} {hd : SN} {A B : List SN} {y : SN} {L : Lk} {x : Sc} {R : HP} (hb : n ≤ 1000000000000) (hh : y.sc = x) (hok : SkOk hd (A ++ y :: B) L) (hA : ∀ y ∈ A, ltS y.sc x = true) (hB : ∀ z ∈ y :: B, ltS z.sc x = false) (S : Sat w0 w (skl o seed hd (A ++ y :: B) L (n + 1) * R)) :
    Calls Try.prog 39 #[pt o, .agg #[.string x.f0, .int .i64 x.f1]] w fun en w' => en = .returned (.bool true) ∧ ∃ L', SkOk hd (A ++ B) L' ∧ Sat w0 w' (skl o seed hd (A ++ B) L' n * R) := by
  obtain ⟨xb, hxb⟩ : ∃ xb, xb = w.heap.size := ⟨_, rfl⟩
  have S0 := (S.alloc (scO x))
  rw [← hxb] at S0
  have HS0 := Lib.hid S0
  have HXB := Lib.hid hxb
  have HOK := Lib.hid hok
  have HA := Lib.hid hA
  have HB := Lib.hid hB
  have HH := Lib.hid (show headIs (y :: B) x = true from eqS_iff.2 hh)
  have HBG := Lib.hid hb
  clear S S0 hxb hok hA hB hh hb
  go_enter Try.func39, Try.ntmps39
  go_upto_region 1 with (fail)
  rw [← HXB.out]
  refine gen_w HS0.out ?_
  clear HS0 HXB
  intro w1 S1
  obtain ⟨z0, z1, -⟩ := blk2 S1.blk
  have HS1 := Lib.hid S1
  clear S1
  go_wp2_with fail
  refine (skReady HS1.out.p2).mono ?_
  rintro en w' ⟨rfl, rfl⟩
  go_wp2_with fail
  refine (skTo HOK.out HA.out HB.out HS1.out.p2).mono ?_
  rintro en w2 ⟨tr, htr, rfl, S2⟩
  have HTR := Lib.hid htr
  obtain ⟨tb, htb⟩ : ∃ tb, tb = w2.heap.size := ⟨_, rfl⟩
  have S3 := (S2.alloc (.cells (trC (fun _ => .pointer none) (fun _ => .int .i64 0)).toArray 130)).cong (show _ = _ from rfl)
  have hth := trS_there (f' := fun k => pt (tr k).1.b) (g' := fun k => .int .i64 (tr k).2) S3
  have S4 := S3.trS_put (fun k => pt (tr k).1.b) (fun k => .int .i64 (tr k).2)
  rw [trZ] at hth S4
  have HTH := Lib.hid hth
  rw [← htb] at S4
  have HS4 := Lib.hid S4
  have HTB := Lib.hid htb
  clear S2 S3 S4 htr HS1 z0 z1 htb hth
  go_upto_region 4 with (with_reducible refine wpList_store_mid rfl 130 (.tmp 5) (.tmp 14) rfl w2.heap.size 0 (trV tr).toArray rfl rfl HTH.out (trsize _ _) (trV_one tr) ?_)
  rw [← HTB.out]
  refine gen_w HS4.out ?_
  clear HS4 HTB HTH
  intro w3 S3
  obtain ⟨z0, z1, -⟩ := blk2 S3.p3.blk
  have HS5 : Hid (Sat w0 w3 (pts tb (trO tr) * (skl o seed hd (A ++ y :: B) L (n + 1) * (pts xb (scO x) * R)))) := Lib.hid S3
  clear S3
  simp only [Act.put]
  go_wp2_with fail
  refine (skHas HOK.out (HTR.out 0 (by decide)) HS5.out).mono ?_
  rintro en w4 ⟨rfl, S6⟩
  rw [HH.out]
  obtain ⟨t0, t1, hx0, t2, t3⟩ := tr_next HOK.out (HTR.out 0 (by decide)) S6
  obtain ⟨t3, -, -⟩ : _ ∧ _ ∧ _ := t3
  have hx1 : (0 : Int) < ((tr 0).1.h : Int) := by omega
  have HS6 : Hid (Sat w0 w4 (pts tb (trO tr) * (pts o (.cells #[.int .u64 seed, pt hd.b, .int .i64 ((n + 1 : Nat) : Int)] 139 (0, 0)) * (sks sN sL L (hd :: (A ++ y :: B)) * (pts xb (scO x) * R))))) := Lib.hid (S6.cong (by unfold skl; ac_rfl))
  clear S6 HS5 z0 z1
  go_wp2_with fail
  clear t0 t1 t2 t3 hx1 hx0
  go_loopg [27] 17 (fun kq v27 wr => ∃ (k : Nat) (Lk : Lk), v27 = .int .i64 k ∧ Hid (k ≤ 16 ∧ kq = 17 - k) ∧ Hid (∀ j < k, GoodAt j (hd :: (A ++ B)) Lk) ∧ Hid (∀ j, k ≤ j → ∀ z ∈ hd :: (A ++ y :: B), Lk z.b j = L z.b j) ∧
    Hid (Sat w0 wr (pts tb (trO tr) * (pts o (.cells #[.int .u64 seed, pt hd.b, .int .i64 ((n + 1 : Nat) : Int)] 139 (0, 0)) * (sks sN sL Lk (hd :: (A ++ y :: B)) * (pts xb (scO x) * R))))))
  case atStart => exact ⟨0, L, rfl, Lib.hid ⟨by omega, rfl⟩, Lib.hid (fun j hj => by omega), Lib.hid (fun j _ z hz => rfl), HS6⟩
  case round =>
    clear HS6
    obtain ⟨k, Lk, rfl, HI, HG, HU, HSr⟩ := hrel
    by_cases hlt : k < 16
    · obtain ⟨pre, M, hA1, hr1, hkx, hM⟩ := HTR.out k hlt
      obtain ⟨xk, hxk⟩ : ∃ xk, xk = (tr k).1 := ⟨_, rfl⟩
      rw [← hxk] at hA1 hkx
      have hcut : hd :: (A ++ y :: B) = pre ++ xk :: (M ++ y :: B) := by rw [← List.cons_append, hA1]; simp
      have hcut1 : hd :: (A ++ B) = pre ++ xk :: (M ++ B) := by rw [← List.cons_append, hA1]; simp
      have hxm : xk ∈ hd :: (A ++ y :: B) := by rw [hcut]; simp
      have hold : Lk xk.b k = L xk.b k := HU.out k (Nat.le_refl k) xk hxm
      have hgood := hcut ▸ HOK.out.good k hlt
      have hform := good_form (L := L) hkx hgood
      have hk0 : (0 : Int) ≤ (k : Int) := by omega
      have hklt : (k : Int) < 16 := by omega
      have hkl : (k : Int) < (xk.h : Int) := by have := sk_top HOK.out hxm; omega
      have t0 := cell_of HSr.out.blk k (v := pt (tr k).1.b) (by simpa using trC_at (f := fun k => pt (tr k).1.b) (g := fun k => .int .i64 (tr k).2) hlt)
      rw [← hxk] at t0
      have S1 := HSr.out.p3
      have hblk := sks_blk S1
      rw [hcut] at S1
      obtain ⟨x0, x1, x2⟩ := S1.sks_at.snode_cells
      have hnd := HOK.out.nd
      rw [hcut] at hnd
      have hmid := nodup_mid hnd
      have hbig : (M ++ y :: B).length ≤ 1000000000000 := by
        have := HOK.out.big
        have e := congrArg List.length hcut
        simp only [List.length_cons, List.length_append] at e this ⊢
        omega
      have HBIG := Lib.hid hbig
      have HCUT := Lib.hid hcut
      have HCUT1 := Lib.hid hcut1
      have HMID := Lib.hid hmid
      have HM := Lib.hid hM
      have HKX := Lib.hid hkx
      have HOLD := Lib.hid hold
      have HND := Lib.hid hnd
      have HGOOD := Lib.hid hgood
      have hpb : ∀ z ∈ pre ++ B, z ∈ hd :: (A ++ y :: B) ∧ z.b ≠ xk.b := fun z hz => by
        refine ⟨?_, hmid z ?_⟩
        · rw [hcut]; rcases List.mem_append.1 hz with h' | h' <;> simp [h']
        · rcases List.mem_append.1 hz with h' | h' <;> simp [h']
      have HPB := Lib.hid hpb
      have hym : y ∈ hd :: (A ++ y :: B) := by simp
      obtain ⟨c1, c2, cf, -, SB⟩ := S1.sks_link hkx hnd
      rw [hold] at c1 c2
      by_cases hge : y.h ≤ k
      · have HGE := Lib.hid hge
        rcases hform with ⟨j, hf, -⟩ | ⟨z, d, hf, hnx⟩
        · rw [hf] at c1 c2
          simp only at c1 c2
          have HF := Lib.hid hf
          have hq := run_eql_nil_ptr (P := Try.prog) wr ⟨y.b, 0, none⟩ skPtr skInfo.choose_spec.1
          clear hf hold S1 SB hge hkx hr1 hA1 hxk hblk hcut hcut1 hmid hM hnd hgood hxm hpb hym hbig
          go_wp2_with fail
          go_roundg (17 - (k + 1))
          case measure => have := HI.out; omega
          case rel =>
            refine ⟨k + 1, Lk, by go_num, Lib.hid ⟨by omega, rfl⟩, Lib.hid fun j hj => ?_, Lib.hid fun j hj => HU.out j (by omega), HSr⟩
            by_cases e : j = k
            · subst e
              rw [HCUT1.out]
              exact good_drop_over HKX.out HM.out HGE.out HGOOD.out (fun z hz => HU.out j (Nat.le_refl j) z (HPB.out z hz).1) (by rw [HOLD.out, HF.out]; rfl)
            · exact HG.out j (by omega)
        · rw [hf] at c1 c2
          simp only at c1 c2
          have hdle := (nx_le hnx).1
          have hdl1 := (nx_le hnx).2
          have hdd : (d : Int) ≤ 1000000000000 := by omega
          have hzB : z ∈ B := by
            rcases nx_parts hnx with ⟨M1, M2, e, -, hz⟩ | ⟨-, hz⟩
            · exact absurd (hM z (by rw [e]; simp)) (by omega)
            · rcases List.mem_cons.1 hz with e | hz
              · obtain ⟨_, _, _, _, h', _⟩ := nx_some hnx
                rw [e] at h'; omega
              · exact hz
          have hzy : z.b ≠ y.b := by
            have h' := HOK.out.nd
            rw [show hd :: (A ++ y :: B) = (hd :: A) ++ y :: B from rfl] at h'
            exact nodup_mid h' z (by simp [hzB])
          obtain ⟨cz, hcz⟩ := hblk z (by simp [hzB])
          obtain ⟨cy, hcy⟩ := hblk y hym
          have hq := run_eql_ptr_other (P := Try.prog) wr skPtr skInfo.choose_spec.1 skInfo.choose_spec.2 (a := ⟨z.b, 0, none⟩) (b := ⟨y.b, 0, none⟩) (fun h' => hzy (by injection h')) hcz hcy
          have S9 := SB (.int .i64 ((d : Int) - 1))
          have HS9 := Lib.hid S9
          have HF := Lib.hid hf
          clear hf hold S1 SB S9 hge hkx hr1 hA1 hxk hblk hcut hcut1 hmid hM hnd hgood hxm hpb hym hbig hnx hdle hzB hzy hcz hcy
          go_wp2_with fail
          go_roundg (17 - (k + 1))
          case measure => have := HI.out; omega
          case rel =>
            refine ⟨k + 1, _, by go_num, Lib.hid ⟨by omega, rfl⟩, Lib.hid fun j hj => ?_, Lib.hid fun j hj z hz => ?_, Lib.hid ((HS9.out.cong (by rw [← HCUT.out])).p3.p3)⟩
            · by_cases e : j = k
              · subst e
                rw [HCUT1.out]
                refine good_drop_over HKX.out HM.out HGE.out HGOOD.out (fun z hz => ?_) ?_
                · rw [up2_off (HPB.out z hz).2]
                  exact HU.out j (Nat.le_refl j) z (HPB.out z hz).1
                · rw [updBy_eq]
                  simp only [and_self, if_true]
                  rw [HOLD.out, HF.out]
                  rfl
              · refine goodAt_same (fun z _ => ?_) (HG.out j (by omega))
                rw [updBy_eq]
                simp only
                rw [if_neg (fun h' => e h'.2)]
            · rw [updBy_eq]
              simp only
              rw [if_neg (fun h' => by omega)]
              exact HU.out j (by omega) z hz
      · have hyk : k < y.h := by omega
        have HYK := Lib.hid hyk
        have hdl := drop_link hkx hM hyk hgood
        rw [hdl] at c1 c2
        simp only at c1 c2
        have hq := run_eql_ptr_same (P := Try.prog) wr ⟨y.b, 0, none⟩ skPtr skInfo.choose_spec.1
        have S2 := HSr.out.p3
        rw [show hd :: (A ++ y :: B) = (hd :: A) ++ y :: B from rfl] at S2
        have hndy := HOK.out.nd
        rw [show hd :: (A ++ y :: B) = (hd :: A) ++ y :: B from rfl] at hndy
        obtain ⟨y0, y1, y2⟩ := S2.sks_at.snode_cells
        obtain ⟨d1, d2, -, -, -⟩ := S2.sks_link hyk hndy
        rw [HU.out k (Nat.le_refl k) y hym] at d1 d2
        have hyform := good_form (L := L) hyk (by have := HOK.out.good k hlt; rw [show hd :: (A ++ y :: B) = (hd :: A) ++ y :: B from rfl] at this; exact this)
        obtain ⟨u0, n0, hfy⟩ : ∃ u0 n0, L y.b k = (.pointer u0, .int .i64 n0) := by
          rcases hyform with ⟨j, hf, -⟩ | ⟨z, d, hf, -⟩
          · exact ⟨_, _, hf⟩
          · exact ⟨_, _, hf⟩
        rw [hfy] at d1 d2
        simp only at d1 d2
        have hkly : (k : Int) < (y.h : Int) := by omega
        obtain ⟨Q, hQ⟩ : ∃ Q, Q = M.length := ⟨_, rfl⟩
        rw [← hQ] at c2
        have HQ := Lib.hid hQ
        have HFY := Lib.hid hfy
        have HYF := Lib.hid hyform
        have hQb : (Q : Int) ≤ 1000000000000 := by
          rw [List.length_append] at hbig; omega
        obtain ⟨-, -, -, c3, cf2, SX⟩ := link_put hkx hnd (.pointer u0) (.int .i64 (wrap64 (wrap64 ((Q : Int) + 1 + n0) - 1))) S1
        rw [hold, hdl, ← hQ] at c3
        have HSX := Lib.hid SX
        clear SX
        clear hform hold SB hge hkx hr1 hA1 hxk hblk hcut hcut1 hmid hM hnd hgood hxm hpb hym hbig hQ hdl S2 hndy y0 y1 hfy hyform hyk S1
        go_wp2_with fail
        go_region
        go_wp2_with fail
        go_roundg (17 - (k + 1))
        case measure => have := HI.out; omega
        case rel =>
          refine ⟨k + 1, _, by go_num, Lib.hid ⟨by omega, rfl⟩, Lib.hid fun j hj => ?_, Lib.hid fun j hj z hz => ?_, Lib.hid ((HSX.out.drew.cong (by rw [← HCUT.out])).p3.p3)⟩
          · by_cases e : j = k
            · subst e
              rw [HCUT1.out]
              refine good_drop_in HKX.out HM.out HYK.out HGOOD.out (fun z hz => ?_) (fun n' hn' => ?_)
              · rw [upd2_eq]
                simp only
                rw [if_neg (fun h' => (HPB.out z hz).2 h'.1)]
                exact HU.out j (Nat.le_refl j) z (HPB.out z hz).1
              · rw [upd2_eq]
                simp only [and_self, if_true]
                rw [HFY.out] at hn' ⊢
                simp only [Value.int.injEq, true_and] at hn'
                subst hn'
                rcases HYF.out with ⟨j', hf, -⟩ | ⟨z, d, hf, hnx⟩
                · right
                  rw [HFY.out] at hf
                  simp only [Prod.mk.injEq] at hf
                  simp only
                  rw [hf.1]
                  exact ⟨rfl, _, rfl⟩
                · left
                  rw [HFY.out] at hf
                  simp only [Prod.mk.injEq, Value.int.injEq, true_and] at hf
                  have hdle := (nx_le hnx).1
                  have hbg := HBIG.out
                  rw [List.length_append, List.length_cons] at hbg
                  have hq := HQ.out
                  simp only [Prod.mk.injEq, Value.int.injEq, true_and]
                  rw [← hq, hf.2]
                  unfold wrap64
                  omega
            · refine goodAt_same (fun z _ => ?_) (HG.out j (by omega))
              rw [upd2_eq]
              simp only
              rw [if_neg (fun h' => e h'.2)]
          · rw [upd2_eq]
            simp only
            rw [if_neg (fun h' => by omega)]
            exact HU.out j (by omega) z hz
    · have hk16 : k = 16 := by have := HI.out.1; omega
      subst hk16
      clear hlt
      have S1 := HSr.out.p2
      obtain ⟨q0, q1, q2, qf⟩ := blk3 S1.blk
      have S2 := S1.setCell (i := 2) (.int .i64 n)
      have HS2 := Lib.hid S2
      have hw1 : wrap64 (((n + 1 : Nat) : Int) - 1) = (n : Int) := by have := HBG.out; unfold wrap64; omega
      have hw2 : ((n + 1 : Nat) : Int) - 1 = (n : Int) := by omega
      have HW1 := Lib.hid hw1
      have HW2 := Lib.hid hw2
      have hbi : (n : Int) ≤ 1000000000000 := by have := HBG.out; omega
      clear S1 S2 hw1 hw2
      go_wp2_with fail
      go_ret
      have hnd := HOK.out.nd
      have hbig := HOK.out.big
      refine ⟨rfl, Lk, ⟨HOK.out.hh, ?_, fun j hj => HG.out j hj, fun z hz => ?_, ?_⟩, ?_⟩
      · have hp : (hd :: (A ++ y :: B)).Perm (y :: hd :: (A ++ B)) := List.perm_middle (l₁ := hd :: A)
        have := ((hp.map (·.b)).nodup_iff).1 hnd
        rw [List.map_cons, List.nodup_cons] at this
        exact this.2
      · rcases List.mem_append.1 hz with h' | h'
        · exact HOK.out.hts z (by simp [h'])
        · exact HOK.out.hts z (by simp [h'])
      · simp only [List.length_append, List.length_cons] at hbig ⊢
        omega
      · refine Sat.drop1 (A := pts tb (trO tr)) (Sat.drop1 (A := pts xb (scO x)) (Sat.drop1 (A := snode sN sL Lk y) (HS2.out.cong ?_)))
        unfold skl
        simp only [List.setIfInBounds_toArray, List.set_cons_succ, List.set_cons_zero]
        rw [show hd :: (A ++ y :: B) = (hd :: A) ++ y :: B from rfl, sks_mid, show hd :: (A ++ B) = (hd :: A) ++ B from rfl, sks_append]
        ac_rfl
end Go.Sl
/-! ### Rw -/
namespace Go.Sl
open Go.RowKit Go.Proofs.YteakblblpiihpaaW.PrintWords
set_option linter.unusedVariables false
set_option linter.unusedSimpArgs false

/-- A kind whose elements are their cells, and nothing more. -/
structure Flat {α : Type} (d : Kd α) (enc : α → List Value) : Prop where
  len : ∀ x, (enc x).length = d.sz
  K : ∀ w x, d.K w x (enc x)
  M : ∀ w base ok x, d.M w base ok x (enc x)
  pos : 0 < d.sz
section
variable {α : Type} {d : Kd α} {enc : α → List Value} {e : Nat} {w0 w w' : World} {v : Value} {n : Nat} {xs : List α} {R : HP}
theorem flat_length (F : Flat d enc) : ∀ xs : List α, (xs.flatMap enc).length = xs.length * d.sz
  | [] => by simp
  | x :: xs => by rw [List.flatMap_cons, List.length_append, flat_length F xs, F.len, List.length_cons, Nat.add_mul, Nat.one_mul, Nat.add_comm]
theorem flat_at (F : Flat d enc) : ∀ (xs : List α) (j : Nat) (p : α), xs[j]? = some p → ((xs.flatMap enc).drop (j * d.sz)).take d.sz = enc p
  | [], j, p, h => by simp at h
  | x :: xs, 0, p, h => by
    simp only [List.getElem?_cons_zero, Option.some.injEq] at h
    subst h
    rw [List.flatMap_cons, Nat.zero_mul, List.drop_zero, ← F.len x, List.take_left]
  | x :: xs, j + 1, p, h => by
    rw [List.getElem?_cons_succ] at h
    rw [List.flatMap_cons, Nat.add_mul, Nat.one_mul, Nat.add_comm, ← List.drop_drop, ← F.len x, List.drop_left, F.len x]
    exact flat_at F xs j p h
theorem flat_reps (F : Flat d enc) {Q : α → List Value → Prop} (h : ∀ x, Q x (enc x)) (xs : List α) : Reps Q d.sz xs (xs.flatMap enc) :=
  ⟨flat_length F xs, fun j p hp => by rw [flat_at F xs j p hp]; exact h p⟩
theorem flat_cell (F : Flat d enc) {xs : List α} {j i : Nat} {p : α} {u : Value} (hp : xs[j]? = some p) (hu : (enc p)[i]? = some u) : (xs.flatMap enc)[j * d.sz + i]? = some u := by
  have h := flat_at F xs j p hp
  have hi : i < d.sz := by rw [← F.len p]; exact (List.getElem?_eq_some_iff.1 hu).1
  rw [← h, List.getElem?_take_of_lt hi, List.getElem?_drop] at hu
  exact hu
theorem Sat.row_C (F : Flat d enc) (hn : n = xs.length) (S : Sat w0 w (row e d.sz v n (xs.flatMap enc) * R)) : ∃ A c, v = .slice A xs.length c ∧ xs.length ≤ c ∧ d.C w A xs.length xs := by
  subst hn
  obtain ⟨hl, h⟩ := S.row_open
  rcases h with ⟨rfl, h0, hx, _⟩ | ⟨g, cap, cur, rfl, hn, hm, hs, ht, S1⟩
  · have : xs = [] := List.eq_nil_of_length_eq_zero h0
    subst this
    exact ⟨none, 0, rfl, Nat.le_refl _, readsNone _ _⟩
  · refine ⟨_, cap, rfl, hn, rfl, by unfold maxLen at hm; omega, fun _ => ⟨_, rfl, fun j p hp => ⟨enc p, F.len p, F.K w p, fun i u hu => ?_⟩⟩⟩
    obtain ⟨g', e1, hc⟩ := S.row_cells (j * d.sz + i) u (flat_cell F hp hu)
    injection e1 with e1
    injection e1 with e1
    subst e1
    rw [Addr.add_lit, Nat.zero_add]
    exact hc
theorem Sat.row_C_at {A : Option Addr} {m c : Nat} (F : Flat d enc) (hn : n = xs.length) (S : Sat w0 w (row e d.sz (.slice A m c) n (xs.flatMap enc) * R)) : d.C w A xs.length xs := by
  obtain ⟨A', c', e1, _, h⟩ := S.row_C F hn
  injection e1 with e1 e2 e3
  subst e1
  exact h
/-- A row that is the call's own alone: as the printed contracts say it. -/
theorem Sat.row_R (F : Flat d enc) (S : Sat w w' (row e d.sz v xs.length (xs.flatMap enc) * Sl.old w)) : d.R e w' w.heap.size (fun _ => True) v xs ∧ Below w.heap.size w w' := by
  obtain ⟨hl, h⟩ := S.row_open
  refine ⟨?_, S.drop1.old1⟩
  rcases h with ⟨rfl, h0, hx, _⟩ | ⟨g, cap, cur, rfl, hn, hm, hs, ht, S1⟩
  · have : xs = [] := List.eq_nil_of_length_eq_zero h0
    subst this
    exact Kd.R_nil _ _ _ _ _
  · exact ⟨fun _ _ => trivial, xs.flatMap enc, ⟨hl, .inr ⟨g, cap, cur, rfl, Sat.ge (R := emp) (by rw [mul_emp]; exact S1), S1.blk, hn, hm, hs, ht⟩⟩, flat_reps F (F.M _ _ _) xs⟩
/-- A row that is owned, told as one that was made. -/
theorem Sat.row_to_made (F : Flat d enc) (S : Sat w0 w (row e d.sz v xs.length (xs.flatMap enc) * R)) : Sat w0 w (made d e v xs * R) := by
  obtain ⟨hl, h⟩ := S.row_open
  unfold made
  rcases h with ⟨rfl, h0, hx, S1⟩ | ⟨g, cap, cur, rfl, hn, hm, hs, ht, S1⟩
  · have : xs = [] := List.eq_nil_of_length_eq_zero h0
    subst this
    refine Sat.mk_ex1 (w, w.heap.size) (Sat.mk_wh1 (Kd.R_nil _ _ _ _ _) ?_)
    rw [← emp_mul R] at S1
    refine S1.mono1 fun h hh b => ?_
    rw [hh b]
    by_cases hle : w.heap.size ≤ b
    · rw [if_pos hle]; simp [hle]
    · rw [if_neg hle]
  · have hlt := S1.lt
    have hblk := S1.blk
    have hx : (w.heap.extract 0 (g + 1))[g]? = some (.cells cur e (0, 0)) := by
      rw [Array.getElem?_extract, if_pos (by omega), Nat.zero_add]; exact hblk
    refine Sat.mk_ex1 ({ w with heap := w.heap.extract 0 (g + 1) }, g) (Sat.mk_wh1 ?_ ?_)
    · exact ⟨fun _ _ => trivial, xs.flatMap enc, ⟨hl, .inr ⟨g, cap, cur, rfl, Nat.le_refl _, hx, hn, hm, hs, ht⟩⟩, flat_reps F (F.M _ _ _) xs⟩
    · refine S1.mono1 fun h hh b => ?_
      rw [hh]
      by_cases e1 : b = g
      · subst e1; simp only [if_true, Nat.le_refl]; exact hx.symm
      · simp only [e1, if_false]
        by_cases hle : g ≤ b
        · rw [if_pos hle, Array.getElem?_eq_none (by simp; omega)]
        · rw [if_neg hle]
end
end Go.Sl
/-! ### SkJ -/
namespace Go.Sl
open Go.RowKit Go.Proofs Go.Sl Go.Proofs.YteakblblpiihpaaW.PrintWords Go.Proofs.Yteakblblpiihpaa.PZs
set_option linter.unusedVariables false
set_option linter.unusedSimpArgs false
set_option maxRecDepth 100000

set_option maxHeartbeats 8000000 in
/-- 'node', of a rank that is there. -/
theorem skNode {w0 w : World} {o n r : Nat} {seed : Int} {hd y : SN} {P Q : List SN} {L : Lk} {R : HP} (hok : SkOk hd (P ++ y :: Q) L) (hr : P.length = r) (S : Sat w0 w (skl o seed hd (P ++ y :: Q) L n * R)) :
    Calls Try.prog 89 #[pt o, .int .i64 r] w fun en w' => en = .returned (pt y.b) ∧ w = w' := by
  obtain ⟨xs, hxs⟩ : ∃ xs, xs = P ++ y :: Q := ⟨_, rfl⟩
  rw [← hxs] at hok S
  obtain ⟨c0, c1, c2⟩ := skl_cells S
  have hb : r < 1000000000000 := by
    have := hok.big
    rw [hxs, List.length_append, List.length_cons] at this
    omega
  have HS := Lib.hid S
  have HOK := Lib.hid hok
  have HXS := Lib.hid hxs
  have HR := Lib.hid hr
  clear S hok hxs hr
  have hb2 : (r : Int) < 1000000000000 := by omega
  have HW0 := Lib.hid (show (r : Int) + 1 = ((r + 1 : Nat) : Int) by omega)
  go_enter Try.func89, Try.ntmps89
  go_wp2_with fail
  rw [HW0.out]
  have HBB := Lib.hid hb
  clear c0 c1 c2 hb hb2
  go_loopg [5, 6, 15] 17 (fun kq v5 v6 v15 wr => w = wr ∧ ∃ (i : Nat) (x : SN) (pre post : List SN) (lf : Nat), v15 = .int .i64 i ∧ v5 = pt x.b ∧ v6 = .int .i64 lf ∧ Hid (i ≤ 16 ∧ kq = 17 - i) ∧ Hid (hd :: xs = pre ++ x :: post) ∧ Hid (16 ≤ x.h + i) ∧ Hid (pre.length + lf = r + 1) ∧ Hid (i = 16 → lf = 0))
  case atStart => exact ⟨rfl, 0, hd, [], xs, r + 1, rfl, rfl, rfl, Lib.hid ⟨by omega, rfl⟩, Lib.hid rfl, Lib.hid (by rw [HOK.out.hh]; omega), Lib.hid (by simp), Lib.hid (fun h => by omega)⟩
  case round =>
    obtain ⟨rfl, i, x, pre, post, lf, rfl, rfl, rfl, HI, HX, HH, HL, H16⟩ := hrel
    have hi := HI.out.1
    by_cases hlt : i < 16
    · obtain ⟨k, hk⟩ : ∃ k, k = 15 - i := ⟨_, rfl⟩
      have HW := Lib.hid (show (15 : Int) - (i : Int) = (k : Int) by omega)
      have hk16 : k < 16 := by omega
      have HK := Lib.hid hk
      have hkx : k < x.h := by have := HH.out; omega
      have HKX := Lib.hid hkx
      clear hk hkx
      go_upto_region 6 with (fail)
      rw [HW.out, show decide ((i : Int) < 16) = true from by simp; omega]
      clear HW
      go_loopg [5, 6] post.length (fun kq v5 v6 wr => w = wr ∧ ∃ (x : SN) (pre post : List SN) (lf : Nat), v5 = pt x.b ∧ v6 = .int .i64 lf ∧ Hid (hd :: xs = pre ++ x :: post) ∧ Hid (k < x.h) ∧ Hid (kq = post.length) ∧ Hid (pre.length + lf = r + 1))
      case atStart => exact ⟨rfl, x, pre, post, lf, rfl, rfl, HX, HKX, Lib.hid rfl, HL⟩
      case round =>
        clear HX HKX HH HL H16 x pre post lf
        obtain ⟨rfl, x, pre, post, lf, rfl, rfl, HX, HKX, HQ, HL⟩ := hrel
        have hxm : x ∈ hd :: xs := by rw [HX.out]; simp
        obtain ⟨x0, x1, x2, x3, x4⟩ := skl_at HOK.out HX.out HKX.out HS.out
        have hform := good_form (L := L) HKX.out (HX.out ▸ HOK.out.good k hk16)
        have hx16 := sk_top HOK.out hxm
        have hkl : (k : Int) < (x.h : Int) := by have := HKX.out; omega
        have hk0 : (0 : Int) ≤ (k : Int) := by omega
        have hpost : post.length ≤ 1000000000001 := by
          have := HOK.out.big
          have e := congrArg List.length HX.out
          simp only [List.length_cons, List.length_append] at e
          omega
        clear hxm
        rcases hform with ⟨j, hf, hnx⟩ | ⟨z, d, hf, hnx⟩
        · rw [hf] at x3 x4
          simp only at x3 x4
          have HNX := Lib.hid (nx_none.1 hnx)
          clear hf hnx
          go_wp2_with fail
          go_roundg (17 - (i + 1))
          case measure => have := HI.out; omega
          case rel =>
            refine ⟨rfl, i + 1, x, pre, post, lf, by go_num, rfl, rfl, Lib.hid ⟨by omega, rfl⟩, HX, Lib.hid (by have := HKX.out; have := HK.out; omega), HL, Lib.hid fun h16 => ?_⟩
            have hk := HK.out
            have hk0' : k = 0 := by omega
            have hpost0 : post = [] := by
              cases post with
              | nil => rfl
              | cons z zs =>
                exfalso
                have h1 := HNX.out z (by simp)
                have hz : z ∈ xs := by
                  have e := HX.out
                  cases pre with
                  | nil => simp only [List.nil_append, List.cons.injEq] at e; rw [e.2]; simp
                  | cons q qs => simp only [List.cons_append, List.cons.injEq] at e; rw [e.2]; simp
                have := (HOK.out.hts z hz).1
                omega
            have e := congrArg List.length HX.out
            rw [hpost0, HXS.out] at e
            simp only [List.length_cons, List.length_append, List.length_nil] at e
            have := HR.out
            have := HL.out
            omega
        · rw [hf] at x3 x4
          simp only at x3 x4
          have hdle := (nx_le hnx).1
          have hdl1 := (nx_le hnx).2
          have hdd : (d : Int) ≤ 1000000000001 := by omega
          have HNX := Lib.hid hnx
          by_cases hle : d ≤ lf
          · have hled : decide ((d : Int) ≤ (lf : Int)) = true := by simpa using hle
            have hled2 : decide (d ≤ lf) = true := by simpa using hle
            have HW2 := Lib.hid (show (lf : Int) - (d : Int) = ((lf - d : Nat) : Int) by omega)
            have hlfb : (lf : Int) ≤ 1000000000001 := by have := HL.out; have := HBB.out; omega
            obtain ⟨M1, P1, hp1, -, hz1, hd1⟩ := nx_some hnx
            have HP1 := Lib.hid hp1
            have HZ1 := Lib.hid hz1
            have HD1 := Lib.hid hd1
            clear hf hnx hdle hp1 hz1 hd1
            go_wp2_with fail
            rw [HW2.out]
            go_roundg P1.length
            case measure => have := HQ.out; rw [HP1.out] at this; simp at this; omega
            case rel =>
              refine ⟨rfl, z, pre ++ x :: M1, P1, lf - d, rfl, rfl, Lib.hid (by rw [HX.out, HP1.out]; simp), HZ1, Lib.hid rfl, Lib.hid ?_⟩
              have := HL.out
              have := HD1.out
              simp only [List.length_append, List.length_cons]
              omega
          · have hled : decide ((d : Int) ≤ (lf : Int)) = false := by simpa using hle
            have hled2 : decide (d ≤ lf) = false := by simpa using hle
            have HLE := Lib.hid hle
            clear hf hnx hdle hle
            go_wp2_with fail
            go_roundg (17 - (i + 1))
            case measure => have := HI.out; omega
            case rel =>
              refine ⟨rfl, i + 1, x, pre, post, lf, by go_num, rfl, rfl, Lib.hid ⟨by omega, rfl⟩, HX, Lib.hid (by have := HKX.out; have := HK.out; omega), HL, Lib.hid fun h16 => ?_⟩
              have hk := HK.out
              have hk0' : k = 0 := by omega
              subst hk0'
              cases post with
              | nil => have := HNX.out; simp [nx] at this
              | cons q qs =>
                have hq : q ∈ xs := by
                  have e := HX.out
                  cases pre with
                  | nil => simp only [List.nil_append, List.cons.injEq] at e; rw [e.2]; simp
                  | cons q qs => simp only [List.cons_append, List.cons.injEq] at e; rw [e.2]; simp
                have h1 := (HOK.out.hts q hq).1
                have := HNX.out
                rw [nx_here qs (by omega)] at this
                simp only [Option.some.injEq, Prod.mk.injEq] at this
                have := HLE.out
                omega
    · have h16 : i = 16 := by omega
      have hl0 := H16.out h16
      have hxy : x = y := by
        have e := HX.out
        rw [HXS.out] at e
        have e2 := HL.out
        have e3 := HR.out
        have e4 : (hd :: (P ++ y :: Q))[r + 1]? = some y := by
          rw [List.getElem?_cons_succ, ← e3]
          simp
        rw [e, show r + 1 = pre.length by omega] at e4
        simpa using e4
      subst h16
      rw [hxy]
      clear hlt hi
      go_wp2_with fail
      go_ret
      exact ⟨rfl, rfl⟩
end Go.Sl
/-! ### SkL -/
namespace Go.Sl
open Go.RowKit Go.Proofs Go.Sl Go.Proofs.YteakblblpiihpaaW.PrintWords Go.Proofs.Yteakblblpiihpaa.PZs
set_option linter.unusedVariables false
set_option linter.unusedSimpArgs false
set_option maxRecDepth 100000

def encS (x : Sc) : List Value := [.string x.f0, .int .i64 x.f1]
theorem flatS : Flat k30 encS where
  len _ := rfl
  K w x := ⟨[.string x.f0], [.int .i64 x.f1], rfl, rfl, rfl⟩
  M w base ok x := ⟨[.string x.f0], [.int .i64 x.f1], rfl, rfl, rfl⟩
  pos := by decide
/-- A row of pairs, owned. -/
abbrev rS (v : Value) (l : List Sc) : HP := row 30 2 v l.length (l.flatMap encS)
theorem scInfo : (Try.prog.info? 30).map (fun i => (i.zero, i.size, i.bytes)) = some (some (.agg #[.string ⟨#[]⟩, .int .i64 0]), 2, 24) := by kernel_rfl
/-- 'append(v, x)'. -/
theorem Sat.rS_append {w0 w : World} {v : Value} {l : List Sc} {x : Sc} {R : HP} (hl : l.length ≤ 1000000000000) (S : Sat w0 w (rS v l * R)) (g c : Nat) (h0 : w.cell? ⟨g, 0, none⟩ = some (.string x.f0)) (h1 : w.cell? ⟨g, 1, none⟩ = some (.int .i64 x.f1)) :
    ∃ v' w', (Builtin.append_ #[22, 22] 22 #[v, .slice (some ⟨g, 0, none⟩) 1 c]).run Try.prog w = .ok v' w' ∧ Sat w0 w' (rS v' (l ++ [x]) * R) := by
  obtain ⟨v', w', hr, S'⟩ := S.run_append 22 22 Try.underlying22 scInfo rfl (by decide) ⟨g, 0, none⟩ 1 c (encS x) rfl (fun j u hj => by
    match j, hj with
    | 0, hj => simp only [encS, List.getElem?_cons_zero, Option.some.injEq] at hj; subst hj; exact h0
    | 1, hj => simp only [encS, List.getElem?_cons_succ, List.getElem?_cons_zero, Option.some.injEq] at hj; subst hj; exact h1
    | j + 2, hj => simp [encS] at hj) (by simp [encS, Value.oneCell']) (by unfold maxLen; omega) (by omega)
  exact ⟨v', w', hr, S'.cong (by simp [rS, List.flatMap_append])⟩
theorem run_scs (w : World) (m : Nat) (hm : m ≤ 1000000000000) : ∃ cur : Array Value, cur.size = m * 2 ∧ (Instr.makeSlice 22 (.int .i64 0) (.int .i64 m)).run Try.prog w = .ok (.slice (some ⟨w.heap.size, 0, none⟩) 0 m) (w.alloc (.cells cur 30)) := by
  obtain ⟨i, hi, hz, hs, hb⟩ := info_parts scInfo
  have := run_make (P := Try.prog) w 22 30 i (.agg #[.string ⟨#[]⟩, .int .i64 0]) Try.underlying22 hi hz .i64 .i64 0 m (by omega) (by omega) (by rw [hb]; omega) (by omega)
  simp only [Int.toNat_natCast, Int.toNat_zero, hs] at this
  exact ⟨_, by rw [size_madeCells], this⟩
def hdS (Q : List SN) : Value := match Q with | [] => .pointer none | z :: _ => pt z.b
theorem hdS_ptr (Q : List SN) : ∃ p, hdS Q = .pointer p := by cases Q <;> exact ⟨_, rfl⟩
set_option maxHeartbeats 8000000 in
/-- 'Cut', of ranks that are there. -/
theorem skCut {w0 w : World} {o n f t : Nat} {seed : Int} {hd : SN} {xs : List SN} {L : Lk} {R : HP} (hft : f ≤ t) (ht : t < xs.length) (hn : n = xs.length) (hok : SkOk hd xs L) (S : Sat w0 w (skl o seed hd xs L n * R)) :
    Calls Try.prog 71 #[pt o, .int .i64 f, .int .i64 t] w fun en w' => ∃ v, en = .returned v ∧ Sat w0 w' (rS v (((xs.drop f).take (t + 1 - f)).map SN.sc) * (skl o seed hd xs L n * R)) := by
  obtain ⟨Z, hZ⟩ : ∃ Z, Z = xs.drop f := ⟨_, rfl⟩
  obtain ⟨m, hm⟩ : ∃ m, m = t + 1 - f := ⟨_, rfl⟩
  rw [← hZ, ← hm]
  have hb := hok.big
  have hZl : Z.length = xs.length - f := by rw [hZ, List.length_drop]
  have hmZ : m ≤ Z.length := by omega
  have hmb : m ≤ 1000000000000 := by omega
  obtain ⟨y, Z', hZc⟩ : ∃ y Z', Z = y :: Z' := by
    cases Z with
    | nil => simp at hZl; omega
    | cons y Z' => exact ⟨y, Z', rfl⟩
  obtain ⟨P, hP⟩ : ∃ P, P = xs.take f := ⟨_, rfl⟩
  have hxs : xs = P ++ Z := by rw [hZ, hP, List.take_append_drop]
  have hfl : P.length = f := by rw [hP, List.length_take]; omega
  have hxl : xs.length = f + Z.length := by omega
  clear hZ hP
  subst hxs
  have HS := Lib.hid S
  have HOK := Lib.hid hok
  have HN := Lib.hid hn
  have HFL := Lib.hid hfl
  have HMZ := Lib.hid hmZ
  have HM := Lib.hid hm
  have HMB := Lib.hid hmb
  have HZC := Lib.hid hZc
  have HT := Lib.hid ht
  have HFT := Lib.hid hft
  have h1 : max (f : Int) 0 = (f : Int) := by omega
  have h2 : (n : Int) - 1 = ((n - 1 : Nat) : Int) := by omega
  have h3 : (if (n : Int) - 1 < (t : Int) then (n : Int) - 1 else (t : Int)) = (t : Int) := if_neg (by omega)
  have h4 : decide ((t : Int) < (f : Int)) = false := by simp; omega
  have h4' : decide (t < f) = false := by simp; omega
  have h5 : (t : Int) - (f : Int) + 1 = (m : Int) := by omega
  have h6 : (t : Int) - (f : Int) = ((m - 1 : Nat) : Int) := by omega
  have hnb : (n : Int) ≤ 1000000000000 := by omega
  have htb : (t : Int) ≤ 1000000000000 := by omega
  have hfb : (f : Int) ≤ 1000000000000 := by omega
  have H1 := Lib.hid h1
  have H2 := Lib.hid h2
  have H3 := Lib.hid h3
  have H5 := Lib.hid h5
  have H6 := Lib.hid h6
  clear S hok hn hfl hmZ hm hZl hxl hb hmb hZc ht hft h1 h2 h3 h5 h6
  go_enter Try.func71, Try.ntmps71
  go_wp2_with fail
  refine (skLen HS.out).mono ?_
  rintro en w' ⟨rfl, rfl⟩
  go_upto_region 2 with (fail)
  rw [H3.out]
  obtain ⟨cur, hcs, hr⟩ := run_scs w m HMB.out
  have h5 := H5.out
  have S1 := HS.out.alloc (.cells cur 30)
  have S2 : Sat w0 _ (rS (.slice (some ⟨w.heap.size, 0, none⟩) 0 m) [] * _) := Sat.row_shut (e := 30) (sz := 2) (n := 0) (cap := m) (xs := []) rfl (by omega) (by have := HMB.out; unfold maxLen; omega) hcs (by simp) S1
  have HS2 := Lib.hid S2
  clear S1 S2 hcs
  go_upto_region 5 with (fail)
  refine gen_w HS2.out ?_
  clear HS2 hr h5 h4 h4'
  intro w1 S1
  have HS1 := Lib.hid S1
  clear S1
  go_wp2_with fail
  have hnode : Calls Try.prog 89 #[pt o, .int .i64 f] w1 fun en w' => en = .returned (hdS Z) ∧ w1 = w' := by
    have h := HS1.out.p2
    have hk := HOK.out
    rw [HZC.out] at h hk ⊢
    exact skNode hk HFL.out h
  refine hnode.mono ?_
  rintro en w' ⟨rfl, rfl⟩
  clear hnode
  go_wp2_with fail
  go_loopg [7, 8] m (fun kq v7 v8 wr => ∃ (D Q : List SN) (A : Option Addr) (c : Nat), v7 = .slice A D.length c ∧ v8 = hdS Q ∧ Hid (Z = D ++ Q) ∧ Hid (D.length ≤ m ∧ kq = m - D.length) ∧ Hid (Sat w0 wr (rS (.slice A D.length c) (D.map SN.sc) * (skl o seed hd (P ++ Z) L n * R))))
  case atStart => exact ⟨[], Z, _, _, rfl, rfl, Lib.hid rfl, Lib.hid ⟨by simp, by simp⟩, HS1⟩
  case round =>
    clear HS1
    obtain ⟨D, Q, A, c, rfl, rfl, HD, HI, HSr⟩ := hrel
    by_cases hlt : D.length < m
    · have hle : decide ((D.length : Int) ≤ (t : Int) - (f : Int)) = true := by rw [H6.out]; simp; omega
      have hle2 : (D.length : Int) ≤ (t : Int) - (f : Int) := by rw [H6.out]; omega
      obtain ⟨z, Q', hQ⟩ : ∃ z Q', Q = z :: Q' := by
        cases Q with
        | nil =>
          have e := congrArg List.length HD.out
          have := HMZ.out
          simp at e
          omega
        | cons z Q' => exact ⟨z, Q', rfl⟩
      subst hQ
      have hcut : hd :: (P ++ Z) = (hd :: (P ++ D)) ++ z :: Q' := by rw [HD.out]; simp
      have hzx : z ∈ P ++ Z := by rw [HD.out]; simp
      have hz0 : 0 < z.h := (HOK.out.hts z hzx).1
      obtain ⟨x0, x1, x2, x3, -⟩ := skl_at HOK.out hcut hz0 HSr.out.p2
      have hform := good_form (L := L) hz0 (hcut ▸ HOK.out.good 0 (by decide))
      have hto : (L z.b 0).1 = hdS Q' := by
        rcases hform with ⟨j, hf, hnx⟩ | ⟨q, d, hf, hnx⟩
        · cases Q' with
          | nil => rw [hf]; rfl
          | cons q qs =>
            have hq : q ∈ P ++ Z := by rw [HD.out]; simp
            have := (HOK.out.hts q hq).1
            rw [nx_here qs (by omega)] at hnx
            cases hnx
        · cases Q' with
          | nil => simp [nx] at hnx
          | cons q' qs =>
            have hq : q' ∈ P ++ Z := by rw [HD.out]; simp
            have := (HOK.out.hts q' hq).1
            rw [nx_here qs (by omega)] at hnx
            simp only [Option.some.injEq, Prod.mk.injEq] at hnx
            rw [hf, ← hnx.1]
            rfl
      rw [hto, Nat.zero_mul] at x3
      obtain ⟨p, hp⟩ := hdS_ptr Q'
      rw [hp] at x3
      have HP := Lib.hid hp
      have hzh : (0 : Int) < (z.h : Int) := by omega
      have hDb : (D.map SN.sc).length ≤ 1000000000000 := by rw [List.length_map]; have := HMB.out; omega
      have S2 := HSr.out.alloc (.cells #[.string z.m, .int .i64 z.s] 30)
      obtain ⟨q0, q1, -⟩ := blk2 S2.blk
      obtain ⟨v', w', hr, S3⟩ := Sat.rS_append (x := z.sc) hDb S2.p2 wr.heap.size 1 q0 q1
      have HLT := Lib.hid hlt
      have HCUT := Lib.hid hcut
      have HZ0 := Lib.hid hz0
      have HTO := Lib.hid hto
      clear hform hto hp hcut hzx hz0 hDb S2 q0 q1 hlt
      have HS3 := Lib.hid S3
      clear S3
      rw [show hdS (z :: Q') = pt z.b from rfl]
      go_upto_region 7 with (at_builtin; refine wpList_append_eq rfl _ _ _ _ rfl rfl rfl hr ?_)
      clear x0 x1 x2 x3 hr
      obtain ⟨x0, x1, x2, x3, -⟩ := skl_at HOK.out HCUT.out HZ0.out HS3.out.p3
      rw [HTO.out, Nat.zero_mul, HP.out] at x3
      obtain ⟨A', c', hv', -, -⟩ := Sat.row_C flatS rfl HS3.out
      have hl1 : (D.map SN.sc ++ [z.sc]).length = (D ++ [z]).length := by simp
      rw [hl1] at hv'
      subst hv'
      have HS4 : Hid (Sat w0 w' (rS (.slice A' (D ++ [z]).length c') ((D ++ [z]).map SN.sc) * (skl o seed hd (P ++ Z) L n * R))) := Lib.hid ((HS3.out.p2.drop1).cong (by rw [List.map_append]; rfl))
      clear hl1 HS3
      go_wp2_with fail
      go_roundg (m - (D ++ [z]).length)
      case measure => have := HLT.out; have := HI.out; simp; omega
      case rel => exact ⟨D ++ [z], Q', A', c', rfl, HP.out.symm, Lib.hid (by rw [HD.out]; simp), Lib.hid ⟨by have := HLT.out; simp; omega, rfl⟩, HS4⟩
    · have hle : decide ((D.length : Int) ≤ (t : Int) - (f : Int)) = false := by rw [H6.out]; have := HM.out; have := HFT.out; simp; omega
      have hle2 : ¬ (D.length : Int) ≤ (t : Int) - (f : Int) := by rw [H6.out]; have := HM.out; have := HFT.out; omega
      have hDm : D.length = m := by have := HI.out.1; omega
      have HDM := Lib.hid hDm
      clear hlt hDm
      go_wp2_with fail
      go_ret
      refine ⟨_, rfl, ?_⟩
      have e : (Z.map SN.sc).take m = D.map SN.sc := by rw [HD.out, List.map_append, List.take_left' (by rw [List.length_map]; exact HDM.out)]
      rw [e]
      exact HSr.out
end Go.Sl
