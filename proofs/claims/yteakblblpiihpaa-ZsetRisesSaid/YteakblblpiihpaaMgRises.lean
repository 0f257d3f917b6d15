/-
  'mewslaw24.ZsetRises' answers true at every input: ranks rise with scores, and are told back from the end; what was put last is told; a set that nobody made is empty, and takes all. No condition.
  'mewslaw24.ZsetRises': the walk, for the row.
  'mewslaw24.ZsetRises': the walk.
-/
import Derived.Test.YteakblblpiihpaaMgE
import Derived.Deep.RegionHeld3
import Derived.Test.YteakblblpiihpaaRows
import Derived.WalkKit
import Derived.ProofKit
import Derived.OpenShut
import Derived.ShutString
import Derived.ChangeOld
import Derived.Below
import Derived.SizedLaws
import Derived.Carry
/-! ### LawZsR -/
namespace Go.Sl
open Go.RowKit Go.Proofs Go.Proofs.YteakblblpiihpaaW.PrintWords Go.Proofs.Yteakblblpiihpaa.PZs Go.Sl.DI64
set_option linter.unusedVariables false
set_option linter.unusedSimpArgs false
set_option maxRecDepth 100000

theorem cellsR {w0 w : World} {xb g c i : Nat} {k : ByteArray} {t : Int} {r : List Sc} {ty : TypeId} {R : HP} (h : i < r.length) (S : Sat w0 w (pts xb (.cells #[.string k, .int .i64 t] ty (0, 0)) * (rS (.slice (some ⟨g, 0, none⟩) r.length c) r * R))) :
    w.cell? ⟨xb, 0, none⟩ = some (.string k) ∧ w.cell? ⟨xb, 1, none⟩ = some (.int .i64 t) ∧ w.cell? ⟨g, i * 2, none⟩ = some (.string r[i].f0) ∧ w.cell? ⟨g, i * 2 + 1, none⟩ = some (.int .i64 r[i].f1) := by
  obtain ⟨a0, a1, _⟩ := blk2 S.blk
  obtain ⟨g', e1, x0, x1⟩ := S.p2.rS_two h
  cases e1
  exact ⟨a0, a1, x0, x1⟩
theorem cells2 {w0 w : World} {xb : Nat} {k : ByteArray} {t : Int} {ty : TypeId} {R : HP} (S : Sat w0 w (pts xb (.cells #[.string k, .int .i64 t] ty (0, 0)) * R)) :
    w.cell? ⟨xb, 0, none⟩ = some (.string k) ∧ w.cell? ⟨xb, 1, none⟩ = some (.int .i64 t) := by
  obtain ⟨a0, a1, _⟩ := blk2 S.blk
  exact ⟨a0, a1⟩
theorem zsRank3 {w0 w : World} {s : Nat} {l : List Sc} {m : ByteArray} {back : Bool} {X Y R : HP} (hm : m.size ≤ maxLen) (S : Sat w0 w (X * (Y * (zs s l * R)))) :
    Calls Try.prog 12 #[pt s, .string m, .bool back] w fun en w' => en = .returned (.int .i64 (rkS l m back)) ∧ Sat w0 w' (X * (Y * (zs s l * R))) := by
  refine (zsRank hm S.p3).mono ?_
  rintro en w' ⟨rfl, S'⟩
  exact ⟨rfl, S'.cong (by ac_rfl)⟩
set_option maxHeartbeats 16000000 in
theorem risesZs {w : World} {A0 : Option Addr} {c0 : Nat} {l : List Sc} (hr0 : Kd.C k30 w A0 l.length l) (hc0 : l.length ≤ c0) :
    Calls Try.prog 3 #[.slice A0 l.length c0] w fun en w' => en = .returned (.bool true) ∧ Below w.heap.size w w' := by
  have hmax : l.length ≤ 9223372036854775807 := hr0.2.1
  have HR := Lib.hid hr0
  have HC := Lib.hid hc0
  clear hr0 hc0
  by_cases hbig : 100 < l.length
  · have hd : decide ((100 : Int) < (l.length : Int)) = true := by simp; omega
    clear hbig
    go_enter Try.func3, Try.ntmps3
    go_wp2_with fail
    refine (aliveZs (Sat.start w)).mono ?_
    rintro en w5 ⟨rfl, S5⟩
    have HS5 := Lib.hid S5.old1
    clear S5
    go_wp2_with fail
    go_ret
    exact ⟨rfl, HS5.out⟩
  have hd : decide ((100 : Int) < (l.length : Int)) = false := by simp; omega
  have hlen : l.length ≤ 100 := by omega
  have HLEN := Lib.hid hlen
  have hl100 : (l.length : Int) ≤ 100 := by omega
  clear hbig hlen hmax
  go_enter Try.func3, Try.ntmps3
  obtain ⟨b, hb⟩ : ∃ b, b = w.heap.size := ⟨_, rfl⟩
  have S0 := (Sat.start w).alloc (.cells #[.pointer none, .pointer none] 28)
  rw [← hb] at S0
  have HS : Hid (Sat w _ (zsX 0 b [] * old w)) := Lib.hid S0
  have HB := Lib.hid hb
  clear S0 hb
  go_upto_region 4 with (fail)
  rw [← HB.out]
  refine gen_w HS.out ?_
  clear HS HB
  intro w1 S1
  have HS := Lib.hid S1
  clear S1
  go_wp2_with fail
  go_loopw [21] (fun v21 wr => ∃ i : Nat, v21 = .int .i64 i ∧ i ≤ l.length ∧ Hid (∀ j (h : j < l.length), j < i → l[j].f0.size ≤ 200) ∧ Hid (Sat w wr (zsX i b (putsS (l.take i)) * old w))) (fun v21 _ => l.length - (RowKit.intOf v21).toNat)
  case atStart => exact ⟨0, rfl, by omega, Lib.hid (fun j _ h => absurd h (by omega)), HS⟩
  case round =>
    clear HS
    obtain ⟨i, rfl, hi, HZ, HSi⟩ := hrel
    by_cases hlt : i < l.length
    · obtain ⟨ad, e1, hx0, hx1⟩ := argZ HR.out HSi.out.drop1.old1 hlt
      subst e1
      obtain ⟨xx, hxx⟩ : ∃ xx, xx = l[i] := ⟨_, rfl⟩
      rw [← hxx] at hx0 hx1
      obtain ⟨ky, sc⟩ := xx
      simp only at hx0 hx1
      obtain ⟨ob, hob⟩ : ∃ ob, ob = wr.heap.size := ⟨_, rfl⟩
      have SA := HSi.out.alloc (.cells #[.string ky, .int .i64 sc] 30)
      rw [← hob] at SA
      have HSA := Lib.hid SA
      have HOB := Lib.hid hob
      have HXX := Lib.hid hxx
      clear SA hob HSi hxx
      go_upto_region 7 with (fail)
      rw [← HOB.out]
      clear hx0 hx1
      refine gen_w HSA.out ?_
      clear HSA HOB
      intro wq SB
      obtain ⟨b0, b1, -⟩ := blk2 SB.blk
      have HSB := Lib.hid SB.p2
      clear SB
      by_cases hfar : 200 < ky.size
      · have hfd : decide ((200 : Int) < (ky.size : Int)) = true := by simp; omega
        clear hfar
        go_wp2_with fail
        refine (aliveZs HSB.out).mono ?_
        rintro en w5 ⟨rfl, S5⟩
        have HS5 := Lib.hid S5.drop1.drop1.old1
        clear S5 HSB b0 b1
        go_wp2_with fail
        go_ret
        exact ⟨rfl, HS5.out⟩
      · have hfd : decide ((200 : Int) < (ky.size : Int)) = false := by simp; omega
        have HK := Lib.hid (show ky.size ≤ 200 by omega)
        have HZ2 : Hid (∀ j (h : j < l.length), j < i + 1 → l[j].f0.size ≤ 200) := Lib.hid (fun j h hj => by
          by_cases e : j = i
          · subst e; rw [← HXX.out]; exact HK.out
          · exact HZ.out j h (by omega))
        have HT : Hid (putsS (l.take (i + 1)) = putS (putsS (l.take i)) ⟨ky, sc⟩) := Lib.hid (by rw [puts_take l hlt, ← HXX.out])
        have HOKS : Hid (ZOk (putsS (l.take i)) ∧ (putsS (l.take i)).length < 1000000) := Lib.hid (by
          -- the members that came so far are short
          have hsz : ∀ x ∈ l.take i, x.f0.size ≤ maxLen := fun x hx => by
            obtain ⟨j, hj, rfl⟩ := List.mem_iff_getElem.1 hx
            rw [List.getElem_take]
            have hj' : j < i := by simp at hj; omega
            exact Nat.le_trans (HZ.out j (by omega) hj') (by decide)
          have hti : (l.take i).length = i := by rw [List.length_take]; omega
          have := puts_ok hsz (by have := HLEN.out; omega) i (by omega)
          rw [List.take_take, Nat.min_self] at this
          exact ⟨this.1, by have := this.2; have := HLEN.out; omega⟩)
        have h0 : Hid (i = 0 → putsS (l.take i) = []) := Lib.hid (fun e => by rw [e]; rfl)
        have HML : Hid (ky.size ≤ maxLen) := Lib.hid (Nat.le_trans HK.out (by decide))
        clear hfar
        go_wp2_with fail
        refine (zsPutX HML.out HOKS.out.2 h0.out HSB.out).mono ?_
        rintro en w2 ⟨⟨bb, rfl⟩, S2⟩
        rw [← HT.out] at S2
        clear b0 b1
        obtain ⟨b0, b1, -⟩ := blk2 S2.p2.blk
        have HS2 := Lib.hid S2
        clear S2 HSB
        go_wp2_with fail
        refine (zsScore HML.out HS2.out).mono ?_
        rintro en w3 ⟨rfl, S3⟩
        have hsc : findS (putsS (l.take (i + 1))) ky = some sc := by
          have hz := HS2.out.zs_ok
          rw [HT.out] at hz ⊢
          rw [find_put HOKS.out.1 hz, if_pos rfl]
        rw [scoreV_some hsc]
        clear hsc b0 b1
        obtain ⟨b0, b1, -⟩ := blk2 S3.p2.blk
        have HS3 : Hid (Sat w w3 (zsX (i + 1) b (putsS (l.take (i + 1))) * old w)) := Lib.hid (S3.p2.drop1)
        clear S3 HS2
        go_wp2_with fail
        go_roundw
        case rel => exact ⟨i + 1, by simp, by omega, HZ2, HS3⟩
        case measure => simp [RowKit.intOf]; omega
    · have hi2 : i = l.length := by omega
      have HIE : Hid (l.take i = l) := Lib.hid (by rw [hi2, List.take_of_length_le (Nat.le_refl _)])
      have HSZ : Hid (∀ x ∈ l, x.f0.size ≤ maxLen) := Lib.hid (fun x hx => by
        obtain ⟨j, hj, rfl⟩ := List.mem_iff_getElem.1 hx
        exact Nat.le_trans (HZ.out j hj (by omega)) (by decide))
      have h0 : Hid (i = 0 → putsS (l.take i) = []) := Lib.hid (fun e => by rw [e]; rfl)
      go_wp2_with fail
      refine (zsAllX h0.out HSi.out).mono ?_
      rintro en w2 ⟨v, rfl, S2⟩
      rw [HIE.out] at S2
      obtain ⟨r, hr⟩ : ∃ r, r = putsS l := ⟨_, rfl⟩
      rw [← hr] at S2
      have HRR := Lib.hid hr
      have hrok : ZOk r ∧ r.length ≤ l.length := by
        have := puts_ok HSZ.out (by have := HLEN.out; omega) l.length (Nat.le_refl _)
        rw [List.take_of_length_le (Nat.le_refl _), ← hr] at this
        exact this
      have HRZ := Lib.hid hrok.1
      have hr100 : r.length ≤ 100 := Nat.le_trans hrok.2 HLEN.out
      obtain ⟨A, c, rfl, hcc, -⟩ := Sat.row_C flatS rfl S2
      have HS2 := Lib.hid S2
      clear S2 HSi hr hrok hi hi2 HIE h0 hlt HZ
      have hri100 : (r.length : Int) ≤ 100 := by omega
      go_wp2_with fail
      go_loopw [56] (fun v56 wr => ∃ i : Nat, v56 = .int .i64 i ∧ i ≤ r.length ∧ Hid (Sat w wr (rS (.slice A r.length c) r * (zs b r * old w)))) (fun v56 _ => r.length - (RowKit.intOf v56).toNat)
      case atStart => exact ⟨0, rfl, by omega, HS2⟩
      case round =>
        clear HS2
        obtain ⟨i, rfl, hi, HSi⟩ := hrel
        by_cases hlt : i < r.length
        · obtain ⟨g, e1, x0, x1⟩ := HSi.out.rS_two hlt
          subst e1
          obtain ⟨hk1, hk2⟩ := rk_at HRZ.out hlt
          have HRK1 := Lib.hid hk1
          have HRK2 := Lib.hid hk2
          have HKS : Hid (r[i].f0.size ≤ maxLen) := Lib.hid (HRZ.out.sz _ (List.getElem_mem hlt))
          obtain ⟨xb, hxb⟩ : ∃ xb, xb = wr.heap.size := ⟨_, rfl⟩
          have SA := HSi.out.alloc (.cells #[.string r[i].f0, .int .i64 r[i].f1] 30)
          rw [← hxb] at SA
          have HSA := Lib.hid SA
          have HXB := Lib.hid hxb
          clear SA hxb HSi hk1 hk2
          go_upto_region 18 with (fail)
          rw [← HXB.out]
          clear x0 x1
          refine gen_w HSA.out ?_
          clear HSA HXB
          intro wq SB
          have HSB := Lib.hid SB
          clear SB
          by_cases hi0 : i = 0
          · subst hi0
            have hw1 : IntKind.i64.wrap ((r.length : Int) - 1) = (r.length : Int) - 1 := by simp [IntKind.wrap, IntKind.signed, IntKind.bits]; omega
            -- BEGIN A
            refine wp_region_noPanic ?_
            refine wp_region_held_drew (S := (fun w' => w'.cell? ⟨xb, 0, none⟩ = some (.string r[0].f0) ∧ w'.cell? ⟨xb, 1, none⟩ = some (.int .i64 r[0].f1))) (by kernel_rfl) ?_ (fun hHeld => ?_)
            · exact cells2 HSB.out.drew
            refine wpAnyH_take (i := 0) (v := ?_) (by simp only [List.getElem?_toArray, List.getElem?_cons_succ, List.getElem?_cons_zero]; rfl) (by kernel_rfl) (by kernel_rfl) (by kernel_rfl) (fun _ _ _ h => h) (Or.inl ⟨by rfl, ?_⟩) hHeld ?_
            rotate_left
            · (intro w hSw; (try dsimp only at hSw); go_simp; try with_reducible rfl)
            try simp only [Act.put, List.setIfInBounds_toArray, List.set_cons_zero, List.set_cons_succ]
            refine wpAnyH_take (i := 1) (v := ?_) (by simp only [List.getElem?_toArray, List.getElem?_cons_succ, List.getElem?_cons_zero]; rfl) (by kernel_rfl) (by kernel_rfl) (by kernel_rfl) (fun _ _ _ h => h) (Or.inl ⟨by rfl, ?_⟩) hHeld ?_
            rotate_left
            · (intro w hSw; (try dsimp only at hSw); go_simp; try with_reducible rfl)
            try simp only [Act.put, List.setIfInBounds_toArray, List.set_cons_zero, List.set_cons_succ]
            refine wpAnyH_take (i := 2) (v := ?_) (by simp only [List.getElem?_toArray, List.getElem?_cons_succ, List.getElem?_cons_zero]; rfl) (by kernel_rfl) (by kernel_rfl) (by kernel_rfl) (fun _ _ _ h => h) (Or.inl ⟨by rfl, ?_⟩) hHeld ?_
            rotate_left
            · (intro w hSw; (try dsimp only at hSw); go_simp; try with_reducible rfl)
            try simp only [Act.put, List.setIfInBounds_toArray, List.set_cons_zero, List.set_cons_succ]
            refine wpAnyH_take (i := 4) (v := ?_) (by simp only [List.getElem?_toArray, List.getElem?_cons_succ, List.getElem?_cons_zero]; rfl) (by kernel_rfl) (by kernel_rfl) (by kernel_rfl) (fun _ _ _ h => h) (Or.inl ⟨by rfl, ?_⟩) hHeld ?_
            rotate_left
            · (intro w hSw; (try dsimp only at hSw); go_simp; try with_reducible rfl)
            try simp only [Act.put, List.setIfInBounds_toArray, List.set_cons_zero, List.set_cons_succ]
            refine wpAnyH_ready (rs := [3]) (by kernel_rfl) (by simp) ?_
            refine AllReadyH.cons rfl (fun K hK => ?_) AllReadyH.nil
            go_simp
            (refine (zsRank3 HKS.out HSB.out.drew).mono ?_; rintro en w3 ⟨rfl, S3⟩; rw [HRK1.out]; have HSc := Lib.hid S3; clear S3; go_simp)
            refine hK.out _ _ ?_ (fun hHeld => ?_)
            · exact cells2 HSc.out
            clear hK K
            try simp only [Act.put, List.setIfInBounds_toArray, List.set_cons_zero, List.set_cons_succ]
            refine wpAnyH_take (i := 5) (v := (.bool false)) (by simp only [List.getElem?_toArray, List.getElem?_cons_succ, List.getElem?_cons_zero]; rfl) (by kernel_rfl) (by kernel_rfl) (by kernel_rfl) (fun _ _ _ h => h) (Or.inl ⟨by rfl, ?_⟩) hHeld ?_
            · (intro w hSw; (try dsimp only at hSw); go_simp; try with_reducible rfl)
            try simp only [Act.put, List.setIfInBounds_toArray, List.set_cons_zero, List.set_cons_succ]
            refine wpAnyH_take (i := 6) (v := ?_) (by simp only [List.getElem?_toArray, List.getElem?_cons_succ, List.getElem?_cons_zero]; rfl) (by kernel_rfl) (by kernel_rfl) (by kernel_rfl) (fun _ _ _ h => h) (Or.inl ⟨by rfl, ?_⟩) hHeld ?_
            rotate_left
            · (intro w hSw; (try dsimp only at hSw); go_simp; try with_reducible rfl)
            try simp only [Act.put, List.setIfInBounds_toArray, List.set_cons_zero, List.set_cons_succ]
            refine wpAnyH_take (i := 7) (v := ?_) (by simp only [List.getElem?_toArray, List.getElem?_cons_succ, List.getElem?_cons_zero]; rfl) (by kernel_rfl) (by kernel_rfl) (by kernel_rfl) (fun _ _ _ h => h) (Or.inl ⟨by rfl, ?_⟩) hHeld ?_
            rotate_left
            · (intro w hSw; (try dsimp only at hSw); go_simp; try with_reducible rfl)
            try simp only [Act.put, List.setIfInBounds_toArray, List.set_cons_zero, List.set_cons_succ]
            refine wpAnyH_take (i := 8) (v := ?_) (by simp only [List.getElem?_toArray, List.getElem?_cons_succ, List.getElem?_cons_zero]; rfl) (by kernel_rfl) (by kernel_rfl) (by kernel_rfl) (fun _ _ _ h => h) (Or.inl ⟨by rfl, ?_⟩) hHeld ?_
            rotate_left
            · (intro w hSw; (try dsimp only at hSw); go_simp; try with_reducible rfl)
            try simp only [Act.put, List.setIfInBounds_toArray, List.set_cons_zero, List.set_cons_succ]
            refine wpAnyH_take (i := 9) (v := ?_) (by simp only [List.getElem?_toArray, List.getElem?_cons_succ, List.getElem?_cons_zero]; rfl) (by kernel_rfl) (by kernel_rfl) (by kernel_rfl) (fun _ _ _ h => h) (Or.inl ⟨by rfl, ?_⟩) hHeld ?_
            rotate_left
            · (intro w hSw; (try dsimp only at hSw); go_simp; try with_reducible rfl)
            try simp only [Act.put, List.setIfInBounds_toArray, List.set_cons_zero, List.set_cons_succ]
            refine wpAnyH_take (i := 11) (v := ?_) (by simp only [List.getElem?_toArray, List.getElem?_cons_succ, List.getElem?_cons_zero]; rfl) (by kernel_rfl) (by kernel_rfl) (by kernel_rfl) (fun _ _ _ h => h) (Or.inl ⟨by rfl, ?_⟩) hHeld ?_
            rotate_left
            · (intro w hSw; (try dsimp only at hSw); go_simp; try with_reducible rfl)
            try simp only [Act.put, List.setIfInBounds_toArray, List.set_cons_zero, List.set_cons_succ]
            refine wpAnyH_take (i := 12) (v := ?_) (by simp only [List.getElem?_toArray, List.getElem?_cons_succ, List.getElem?_cons_zero]; rfl) (by kernel_rfl) (by kernel_rfl) (by kernel_rfl) (fun _ _ _ h => h) (Or.inl ⟨by rfl, ?_⟩) hHeld ?_
            rotate_left
            · (intro w hSw; (try dsimp only at hSw); go_simp; try with_reducible rfl)
            try simp only [Act.put, List.setIfInBounds_toArray, List.set_cons_zero, List.set_cons_succ]
            refine wpAnyH_take (i := 13) (v := ?_) (by simp only [List.getElem?_toArray, List.getElem?_cons_succ, List.getElem?_cons_zero]; rfl) (by kernel_rfl) (by kernel_rfl) (by kernel_rfl) (fun _ _ _ h => h) (Or.inl ⟨by rfl, ?_⟩) hHeld ?_
            rotate_left
            · (intro w hSw; (try dsimp only at hSw); go_simp; try with_reducible rfl)
            try simp only [Act.put, List.setIfInBounds_toArray, List.set_cons_zero, List.set_cons_succ]
            refine wpAnyH_take (i := 14) (v := ?_) (by simp only [List.getElem?_toArray, List.getElem?_cons_succ, List.getElem?_cons_zero]; rfl) (by kernel_rfl) (by kernel_rfl) (by kernel_rfl) (fun _ _ _ h => h) (Or.inl ⟨by rfl, ?_⟩) hHeld ?_
            rotate_left
            · (intro w hSw; (try dsimp only at hSw); go_simp; try with_reducible rfl)
            try simp only [Act.put, List.setIfInBounds_toArray, List.set_cons_zero, List.set_cons_succ]
            refine wpAnyH_take (i := 15) (v := (.int .i64 ((r.length : Int) - 1 - ((0 : Nat) : Int)))) (by simp only [List.getElem?_toArray, List.getElem?_cons_succ, List.getElem?_cons_zero]; rfl) (by kernel_rfl) (by kernel_rfl) (by kernel_rfl) (fun _ _ _ h => h) (Or.inl ⟨by rfl, ?_⟩) hHeld ?_
            · (intro w hSw; (try dsimp only at hSw); go_simp; try with_reducible rfl)
            try simp only [Act.put, List.setIfInBounds_toArray, List.set_cons_zero, List.set_cons_succ]
            refine wpAnyH_ready (rs := [10]) (by kernel_rfl) (by simp) ?_
            refine AllReadyH.cons rfl (fun K hK => ?_) AllReadyH.nil
            go_simp
            (refine (zsRank3 HKS.out HSc.out).mono ?_; rintro en w4 ⟨rfl, S4⟩; rw [HRK2.out]; have HSd := Lib.hid S4; clear S4; go_simp)
            refine hK.out _ _ ?_ (fun hHeld => ?_)
            · exact cells2 HSd.out
            clear hK K
            try simp only [Act.put, List.setIfInBounds_toArray, List.set_cons_zero, List.set_cons_succ]
            refine wpAnyH_take (i := 16) (v := (.bool false)) (by simp only [List.getElem?_toArray, List.getElem?_cons_succ, List.getElem?_cons_zero]; rfl) (by kernel_rfl) (by kernel_rfl) (by kernel_rfl) (fun _ _ _ h => h) (Or.inl ⟨by rfl, ?_⟩) hHeld ?_
            · (intro w hSw; (try dsimp only at hSw); go_simp; try with_reducible rfl)
            try simp only [Act.put, List.setIfInBounds_toArray, List.set_cons_zero, List.set_cons_succ]
            refine wpAnyH_take (i := 17) (v := ?_) (by simp only [List.getElem?_toArray, List.getElem?_cons_succ, List.getElem?_cons_zero]; rfl) (by kernel_rfl) (by kernel_rfl) (by kernel_rfl) (fun _ _ _ h => h) (Or.inl ⟨by rfl, ?_⟩) hHeld ?_
            rotate_left
            · (intro w hSw; (try dsimp only at hSw); go_simp; try with_reducible rfl)
            try simp only [Act.put, List.setIfInBounds_toArray, List.set_cons_zero, List.set_cons_succ]
            refine wpAnyH_take (i := 18) (v := ?_) (by simp only [List.getElem?_toArray, List.getElem?_cons_succ, List.getElem?_cons_zero]; rfl) (by kernel_rfl) (by kernel_rfl) (by kernel_rfl) (fun _ _ _ h => h) (Or.inl ⟨by rfl, ?_⟩) hHeld ?_
            rotate_left
            · (intro w hSw; (try dsimp only at hSw); go_simp; try with_reducible rfl)
            try simp only [Act.put, List.setIfInBounds_toArray, List.set_cons_zero, List.set_cons_succ]
            refine wpAnyH_take (i := 19) (v := ?_) (by simp only [List.getElem?_toArray, List.getElem?_cons_succ, List.getElem?_cons_zero]; rfl) (by kernel_rfl) (by kernel_rfl) (by kernel_rfl) (fun _ _ _ h => h) (Or.inl ⟨by rfl, ?_⟩) hHeld ?_
            rotate_left
            · (intro w hSw; (try dsimp only at hSw); go_simp; try with_reducible rfl)
            try simp only [Act.put, List.setIfInBounds_toArray, List.set_cons_zero, List.set_cons_succ]
            refine wpAnyH_take (i := 20) (v := (.bool false)) (by simp only [List.getElem?_toArray, List.getElem?_cons_succ, List.getElem?_cons_zero]; rfl) (by kernel_rfl) (by kernel_rfl) (by kernel_rfl) (fun _ _ _ h => h) (Or.inl ⟨by rfl, ?_⟩) hHeld ?_
            · (intro w hSw; (try dsimp only at hSw); go_simp; try with_reducible rfl)
            try simp only [Act.put, List.setIfInBounds_toArray, List.set_cons_zero, List.set_cons_succ]
            refine wpAnyH_take (i := 21) (v := ?_) (by simp only [List.getElem?_toArray, List.getElem?_cons_succ, List.getElem?_cons_zero]; rfl) (by kernel_rfl) (by kernel_rfl) (by kernel_rfl) (fun _ _ _ h => h) (Or.inl ⟨by rfl, ?_⟩) hHeld ?_
            rotate_left
            · (intro w hSw; (try dsimp only at hSw); go_simp; try with_reducible rfl)
            try simp only [Act.put, List.setIfInBounds_toArray, List.set_cons_zero, List.set_cons_succ]
            refine wpAnyH_take (i := 22) (v := undef) (by simp only [List.getElem?_toArray, List.getElem?_cons_succ, List.getElem?_cons_zero]; rfl) (by kernel_rfl) (by kernel_rfl) (by kernel_rfl) (fun _ _ _ h => h) (Or.inr ⟨by rfl, rfl⟩) hHeld ?_
            try simp only [Act.put, List.setIfInBounds_toArray, List.set_cons_zero, List.set_cons_succ]
            refine wpAnyH_take (i := 23) (v := undef) (by simp only [List.getElem?_toArray, List.getElem?_cons_succ, List.getElem?_cons_zero]; rfl) (by kernel_rfl) (by kernel_rfl) (by kernel_rfl) (fun _ _ _ h => h) (Or.inr ⟨by rfl, rfl⟩) hHeld ?_
            try simp only [Act.put, List.setIfInBounds_toArray, List.set_cons_zero, List.set_cons_succ]
            refine wpAnyH_take (i := 24) (v := undef) (by simp only [List.getElem?_toArray, List.getElem?_cons_succ, List.getElem?_cons_zero]; rfl) (by kernel_rfl) (by kernel_rfl) (by kernel_rfl) (fun _ _ _ h => h) (Or.inr ⟨by rfl, rfl⟩) hHeld ?_
            try simp only [Act.put, List.setIfInBounds_toArray, List.set_cons_zero, List.set_cons_succ]
            refine wpAnyH_take (i := 25) (v := undef) (by simp only [List.getElem?_toArray, List.getElem?_cons_succ, List.getElem?_cons_zero]; rfl) (by kernel_rfl) (by kernel_rfl) (by kernel_rfl) (fun _ _ _ h => h) (Or.inr ⟨by rfl, rfl⟩) hHeld ?_
            try simp only [Act.put, List.setIfInBounds_toArray, List.set_cons_zero, List.set_cons_succ]
            refine wpAnyH_take (i := 26) (v := undef) (by simp only [List.getElem?_toArray, List.getElem?_cons_succ, List.getElem?_cons_zero]; rfl) (by kernel_rfl) (by kernel_rfl) (by kernel_rfl) (fun _ _ _ h => h) (Or.inr ⟨by rfl, rfl⟩) hHeld ?_
            try simp only [Act.put, List.setIfInBounds_toArray, List.set_cons_zero, List.set_cons_succ]
            refine wpAnyH_take (i := 27) (v := undef) (by simp only [List.getElem?_toArray, List.getElem?_cons_succ, List.getElem?_cons_zero]; rfl) (by kernel_rfl) (by kernel_rfl) (by kernel_rfl) (fun _ _ _ h => h) (Or.inr ⟨by rfl, rfl⟩) hHeld ?_
            try simp only [Act.put, List.setIfInBounds_toArray, List.set_cons_zero, List.set_cons_succ]
            refine wpAnyH_take (i := 28) (v := undef) (by simp only [List.getElem?_toArray, List.getElem?_cons_succ, List.getElem?_cons_zero]; rfl) (by kernel_rfl) (by kernel_rfl) (by kernel_rfl) (fun _ _ _ h => h) (Or.inr ⟨by rfl, rfl⟩) hHeld ?_
            try simp only [Act.put, List.setIfInBounds_toArray, List.set_cons_zero, List.set_cons_succ]
            refine wpAnyH_take (i := 29) (v := undef) (by simp only [List.getElem?_toArray, List.getElem?_cons_succ, List.getElem?_cons_zero]; rfl) (by kernel_rfl) (by kernel_rfl) (by kernel_rfl) (fun _ _ _ h => h) (Or.inr ⟨by rfl, rfl⟩) hHeld ?_
            try simp only [Act.put, List.setIfInBounds_toArray, List.set_cons_zero, List.set_cons_succ]
            refine wpAnyH_take (i := 30) (v := ?_) (by simp only [List.getElem?_toArray, List.getElem?_cons_succ, List.getElem?_cons_zero]; rfl) (by kernel_rfl) (by kernel_rfl) (by kernel_rfl) (fun _ _ _ h => h) (Or.inl ⟨by rfl, ?_⟩) hHeld ?_
            rotate_left
            · (intro w hSw; (try dsimp only at hSw); go_simp; try with_reducible rfl)
            try simp only [Act.put, List.setIfInBounds_toArray, List.set_cons_zero, List.set_cons_succ]
            refine wpAnyH_take (i := 31) (v := ?_) (by simp only [List.getElem?_toArray, List.getElem?_cons_succ, List.getElem?_cons_zero]; rfl) (by kernel_rfl) (by kernel_rfl) (by kernel_rfl) (fun _ _ _ h => h) (Or.inl ⟨by rfl, ?_⟩) hHeld ?_
            rotate_left
            · (intro w hSw; (try dsimp only at hSw); go_simp; try with_reducible rfl)
            try simp only [Act.put, List.setIfInBounds_toArray, List.set_cons_zero, List.set_cons_succ]
            refine wpAnyH_done (by kernel_rfl) ?_ _
            refine NoPanic.normal ?_
            -- END A
            have HSe : Hid (Sat w w4 (rS (.slice (some ⟨g, 0, none⟩) r.length c) r * (zs b r * old w))) := Lib.hid HSd.out.drop1
            clear HSB HSc HSd hHeld hw1
            go_wp2_with fail
            go_roundw
            case rel => exact ⟨0 + 1, by simp, by omega, HSe⟩
            case measure => simp [RowKit.intOf]; omega
          · obtain ⟨j, rfl⟩ : ∃ j, i = j + 1 := ⟨i - 1, by omega⟩
            have hj : j < r.length := by omega
            have HLESS := Lib.hid (show ltS r[j] r[j + 1] = true from (List.pairwise_iff_getElem.1 HRZ.out.ord) j (j + 1) hj hlt (by omega))
            have hjd : decide ((0 : Int) < ((j + 1 : Nat) : Int)) = true := by simp
            have hw1 : IntKind.i64.wrap ((r.length : Int) - 1) = (r.length : Int) - 1 := by simp [IntKind.wrap, IntKind.signed, IntKind.bits]; omega
            have hw2 : IntKind.i64.wrap ((r.length : Int) - 1 - ((j : Int) + 1)) = (r.length : Int) - 1 - ((j : Int) + 1) := by simp [IntKind.wrap, IntKind.signed, IntKind.bits]; omega
            have hw3 : IntKind.i64.wrap (j : Int) = (j : Int) := by simp [IntKind.wrap, IntKind.signed, IntKind.bits]; omega
            -- BEGIN B
            refine wp_region_noPanic ?_
            refine wp_region_held_drew (S := (fun w' => w'.cell? ⟨xb, 0, none⟩ = some (.string r[j + 1].f0) ∧ w'.cell? ⟨xb, 1, none⟩ = some (.int .i64 r[j + 1].f1) ∧ w'.cell? ⟨g, j * 2, none⟩ = some (.string r[j].f0) ∧ w'.cell? ⟨g, j * 2 + 1, none⟩ = some (.int .i64 r[j].f1))) (by kernel_rfl) ?_ (fun hHeld => ?_)
            · exact cellsR hj HSB.out.drew
            refine wpAnyH_take (i := 0) (v := ?_) (by simp only [List.getElem?_toArray, List.getElem?_cons_succ, List.getElem?_cons_zero]; rfl) (by kernel_rfl) (by kernel_rfl) (by kernel_rfl) (fun _ _ _ h => h) (Or.inl ⟨by rfl, ?_⟩) hHeld ?_
            rotate_left
            · (intro w hSw; (try dsimp only at hSw); go_simp; try with_reducible rfl)
            try simp only [Act.put, List.setIfInBounds_toArray, List.set_cons_zero, List.set_cons_succ]
            refine wpAnyH_take (i := 1) (v := ?_) (by simp only [List.getElem?_toArray, List.getElem?_cons_succ, List.getElem?_cons_zero]; rfl) (by kernel_rfl) (by kernel_rfl) (by kernel_rfl) (fun _ _ _ h => h) (Or.inl ⟨by rfl, ?_⟩) hHeld ?_
            rotate_left
            · (intro w hSw; (try dsimp only at hSw); go_simp; try with_reducible rfl)
            try simp only [Act.put, List.setIfInBounds_toArray, List.set_cons_zero, List.set_cons_succ]
            refine wpAnyH_take (i := 2) (v := ?_) (by simp only [List.getElem?_toArray, List.getElem?_cons_succ, List.getElem?_cons_zero]; rfl) (by kernel_rfl) (by kernel_rfl) (by kernel_rfl) (fun _ _ _ h => h) (Or.inl ⟨by rfl, ?_⟩) hHeld ?_
            rotate_left
            · (intro w hSw; (try dsimp only at hSw); go_simp; try with_reducible rfl)
            try simp only [Act.put, List.setIfInBounds_toArray, List.set_cons_zero, List.set_cons_succ]
            refine wpAnyH_take (i := 4) (v := ?_) (by simp only [List.getElem?_toArray, List.getElem?_cons_succ, List.getElem?_cons_zero]; rfl) (by kernel_rfl) (by kernel_rfl) (by kernel_rfl) (fun _ _ _ h => h) (Or.inl ⟨by rfl, ?_⟩) hHeld ?_
            rotate_left
            · (intro w hSw; (try dsimp only at hSw); go_simp; try with_reducible rfl)
            try simp only [Act.put, List.setIfInBounds_toArray, List.set_cons_zero, List.set_cons_succ]
            refine wpAnyH_ready (rs := [3]) (by kernel_rfl) (by simp) ?_
            refine AllReadyH.cons rfl (fun K hK => ?_) AllReadyH.nil
            go_simp
            (refine (zsRank3 HKS.out HSB.out.drew).mono ?_; rintro en w3 ⟨rfl, S3⟩; rw [HRK1.out]; have HSc := Lib.hid S3; clear S3; go_simp)
            refine hK.out _ _ ?_ (fun hHeld => ?_)
            · exact cellsR hj HSc.out
            clear hK K
            try simp only [Act.put, List.setIfInBounds_toArray, List.set_cons_zero, List.set_cons_succ]
            refine wpAnyH_take (i := 5) (v := (.bool false)) (by simp only [List.getElem?_toArray, List.getElem?_cons_succ, List.getElem?_cons_zero]; rfl) (by kernel_rfl) (by kernel_rfl) (by kernel_rfl) (fun _ _ _ h => h) (Or.inl ⟨by rfl, ?_⟩) hHeld ?_
            · (intro w hSw; (try dsimp only at hSw); go_simp; try with_reducible rfl)
            try simp only [Act.put, List.setIfInBounds_toArray, List.set_cons_zero, List.set_cons_succ]
            refine wpAnyH_take (i := 6) (v := ?_) (by simp only [List.getElem?_toArray, List.getElem?_cons_succ, List.getElem?_cons_zero]; rfl) (by kernel_rfl) (by kernel_rfl) (by kernel_rfl) (fun _ _ _ h => h) (Or.inl ⟨by rfl, ?_⟩) hHeld ?_
            rotate_left
            · (intro w hSw; (try dsimp only at hSw); go_simp; try with_reducible rfl)
            try simp only [Act.put, List.setIfInBounds_toArray, List.set_cons_zero, List.set_cons_succ]
            refine wpAnyH_take (i := 7) (v := ?_) (by simp only [List.getElem?_toArray, List.getElem?_cons_succ, List.getElem?_cons_zero]; rfl) (by kernel_rfl) (by kernel_rfl) (by kernel_rfl) (fun _ _ _ h => h) (Or.inl ⟨by rfl, ?_⟩) hHeld ?_
            rotate_left
            · (intro w hSw; (try dsimp only at hSw); go_simp; try with_reducible rfl)
            try simp only [Act.put, List.setIfInBounds_toArray, List.set_cons_zero, List.set_cons_succ]
            refine wpAnyH_take (i := 8) (v := ?_) (by simp only [List.getElem?_toArray, List.getElem?_cons_succ, List.getElem?_cons_zero]; rfl) (by kernel_rfl) (by kernel_rfl) (by kernel_rfl) (fun _ _ _ h => h) (Or.inl ⟨by rfl, ?_⟩) hHeld ?_
            rotate_left
            · (intro w hSw; (try dsimp only at hSw); go_simp; try with_reducible rfl)
            try simp only [Act.put, List.setIfInBounds_toArray, List.set_cons_zero, List.set_cons_succ]
            refine wpAnyH_take (i := 9) (v := ?_) (by simp only [List.getElem?_toArray, List.getElem?_cons_succ, List.getElem?_cons_zero]; rfl) (by kernel_rfl) (by kernel_rfl) (by kernel_rfl) (fun _ _ _ h => h) (Or.inl ⟨by rfl, ?_⟩) hHeld ?_
            rotate_left
            · (intro w hSw; (try dsimp only at hSw); go_simp; try with_reducible rfl)
            try simp only [Act.put, List.setIfInBounds_toArray, List.set_cons_zero, List.set_cons_succ]
            refine wpAnyH_take (i := 11) (v := ?_) (by simp only [List.getElem?_toArray, List.getElem?_cons_succ, List.getElem?_cons_zero]; rfl) (by kernel_rfl) (by kernel_rfl) (by kernel_rfl) (fun _ _ _ h => h) (Or.inl ⟨by rfl, ?_⟩) hHeld ?_
            rotate_left
            · (intro w hSw; (try dsimp only at hSw); go_simp; try with_reducible rfl)
            try simp only [Act.put, List.setIfInBounds_toArray, List.set_cons_zero, List.set_cons_succ]
            refine wpAnyH_take (i := 12) (v := ?_) (by simp only [List.getElem?_toArray, List.getElem?_cons_succ, List.getElem?_cons_zero]; rfl) (by kernel_rfl) (by kernel_rfl) (by kernel_rfl) (fun _ _ _ h => h) (Or.inl ⟨by rfl, ?_⟩) hHeld ?_
            rotate_left
            · (intro w hSw; (try dsimp only at hSw); go_simp; try with_reducible rfl)
            try simp only [Act.put, List.setIfInBounds_toArray, List.set_cons_zero, List.set_cons_succ]
            refine wpAnyH_take (i := 13) (v := ?_) (by simp only [List.getElem?_toArray, List.getElem?_cons_succ, List.getElem?_cons_zero]; rfl) (by kernel_rfl) (by kernel_rfl) (by kernel_rfl) (fun _ _ _ h => h) (Or.inl ⟨by rfl, ?_⟩) hHeld ?_
            rotate_left
            · (intro w hSw; (try dsimp only at hSw); go_simp; try with_reducible rfl)
            try simp only [Act.put, List.setIfInBounds_toArray, List.set_cons_zero, List.set_cons_succ]
            refine wpAnyH_take (i := 14) (v := ?_) (by simp only [List.getElem?_toArray, List.getElem?_cons_succ, List.getElem?_cons_zero]; rfl) (by kernel_rfl) (by kernel_rfl) (by kernel_rfl) (fun _ _ _ h => h) (Or.inl ⟨by rfl, ?_⟩) hHeld ?_
            rotate_left
            · (intro w hSw; (try dsimp only at hSw); go_simp; try with_reducible rfl)
            try simp only [Act.put, List.setIfInBounds_toArray, List.set_cons_zero, List.set_cons_succ]
            refine wpAnyH_take (i := 15) (v := (.int .i64 ((r.length : Int) - 1 - ((j + 1 : Nat) : Int)))) (by simp only [List.getElem?_toArray, List.getElem?_cons_succ, List.getElem?_cons_zero]; rfl) (by kernel_rfl) (by kernel_rfl) (by kernel_rfl) (fun _ _ _ h => h) (Or.inl ⟨by rfl, ?_⟩) hHeld ?_
            · (intro w hSw; (try dsimp only at hSw); go_simp; try with_reducible rfl)
            try simp only [Act.put, List.setIfInBounds_toArray, List.set_cons_zero, List.set_cons_succ]
            refine wpAnyH_ready (rs := [10]) (by kernel_rfl) (by simp) ?_
            refine AllReadyH.cons rfl (fun K hK => ?_) AllReadyH.nil
            go_simp
            (refine (zsRank3 HKS.out HSc.out).mono ?_; rintro en w4 ⟨rfl, S4⟩; rw [HRK2.out]; have HSd := Lib.hid S4; clear S4; go_simp)
            refine hK.out _ _ ?_ (fun hHeld => ?_)
            · exact cellsR hj HSd.out
            clear hK K
            try simp only [Act.put, List.setIfInBounds_toArray, List.set_cons_zero, List.set_cons_succ]
            refine wpAnyH_take (i := 16) (v := (.bool false)) (by simp only [List.getElem?_toArray, List.getElem?_cons_succ, List.getElem?_cons_zero]; rfl) (by kernel_rfl) (by kernel_rfl) (by kernel_rfl) (fun _ _ _ h => h) (Or.inl ⟨by rfl, ?_⟩) hHeld ?_
            · (intro w hSw; (try dsimp only at hSw); go_simp; try with_reducible rfl)
            try simp only [Act.put, List.setIfInBounds_toArray, List.set_cons_zero, List.set_cons_succ]
            refine wpAnyH_take (i := 17) (v := ?_) (by simp only [List.getElem?_toArray, List.getElem?_cons_succ, List.getElem?_cons_zero]; rfl) (by kernel_rfl) (by kernel_rfl) (by kernel_rfl) (fun _ _ _ h => h) (Or.inl ⟨by rfl, ?_⟩) hHeld ?_
            rotate_left
            · (intro w hSw; (try dsimp only at hSw); go_simp; try with_reducible rfl)
            try simp only [Act.put, List.setIfInBounds_toArray, List.set_cons_zero, List.set_cons_succ]
            refine wpAnyH_take (i := 18) (v := ?_) (by simp only [List.getElem?_toArray, List.getElem?_cons_succ, List.getElem?_cons_zero]; rfl) (by kernel_rfl) (by kernel_rfl) (by kernel_rfl) (fun _ _ _ h => h) (Or.inl ⟨by rfl, ?_⟩) hHeld ?_
            rotate_left
            · (intro w hSw; (try dsimp only at hSw); go_simp; try with_reducible rfl)
            try simp only [Act.put, List.setIfInBounds_toArray, List.set_cons_zero, List.set_cons_succ]
            refine wpAnyH_take (i := 19) (v := ?_) (by simp only [List.getElem?_toArray, List.getElem?_cons_succ, List.getElem?_cons_zero]; rfl) (by kernel_rfl) (by kernel_rfl) (by kernel_rfl) (fun _ _ _ h => h) (Or.inl ⟨by rfl, ?_⟩) hHeld ?_
            rotate_left
            · (intro w hSw; (try dsimp only at hSw); go_simp; try with_reducible rfl)
            try simp only [Act.put, List.setIfInBounds_toArray, List.set_cons_zero, List.set_cons_succ]
            refine wpAnyH_take (i := 20) (v := (.bool true)) (by simp only [List.getElem?_toArray, List.getElem?_cons_succ, List.getElem?_cons_zero]; rfl) (by kernel_rfl) (by kernel_rfl) (by kernel_rfl) (fun _ _ _ h => h) (Or.inl ⟨by rfl, ?_⟩) hHeld ?_
            · (intro w hSw; (try dsimp only at hSw); go_simp; try with_reducible rfl)
            try simp only [Act.put, List.setIfInBounds_toArray, List.set_cons_zero, List.set_cons_succ]
            refine wpAnyH_take (i := 21) (v := ?_) (by simp only [List.getElem?_toArray, List.getElem?_cons_succ, List.getElem?_cons_zero]; rfl) (by kernel_rfl) (by kernel_rfl) (by kernel_rfl) (fun _ _ _ h => h) (Or.inl ⟨by rfl, ?_⟩) hHeld ?_
            rotate_left
            · (intro w hSw; (try dsimp only at hSw); go_simp; try with_reducible rfl)
            try simp only [Act.put, List.setIfInBounds_toArray, List.set_cons_zero, List.set_cons_succ]
            refine wpAnyH_take (i := 22) (v := ?_) (by simp only [List.getElem?_toArray, List.getElem?_cons_succ, List.getElem?_cons_zero]; rfl) (by kernel_rfl) (by kernel_rfl) (by kernel_rfl) (fun _ _ _ h => h) (Or.inl ⟨by rfl, ?_⟩) hHeld ?_
            rotate_left
            · (intro w hSw; (try dsimp only at hSw); go_simp; try with_reducible rfl)
            try simp only [Act.put, List.setIfInBounds_toArray, List.set_cons_zero, List.set_cons_succ]
            refine wpAnyH_take (i := 23) (v := ?_) (by simp only [List.getElem?_toArray, List.getElem?_cons_succ, List.getElem?_cons_zero]; rfl) (by kernel_rfl) (by kernel_rfl) (by kernel_rfl) (fun _ _ _ h => h) (Or.inl ⟨by rfl, ?_⟩) hHeld ?_
            rotate_left
            · (intro w hSw; (try dsimp only at hSw); go_simp; try with_reducible rfl)
            try simp only [Act.put, List.setIfInBounds_toArray, List.set_cons_zero, List.set_cons_succ]
            refine wpAnyH_take (i := 24) (v := (.int .i64 (j : Nat))) (by simp only [List.getElem?_toArray, List.getElem?_cons_succ, List.getElem?_cons_zero]; rfl) (by kernel_rfl) (by kernel_rfl) (by kernel_rfl) (fun _ _ _ h => h) (Or.inl ⟨by rfl, ?_⟩) hHeld ?_
            · (intro w hSw; (try dsimp only at hSw); go_simp; try with_reducible rfl)
            try simp only [Act.put, List.setIfInBounds_toArray, List.set_cons_zero, List.set_cons_succ]
            refine wpAnyH_take (i := 25) (v := ?_) (by simp only [List.getElem?_toArray, List.getElem?_cons_succ, List.getElem?_cons_zero]; rfl) (by kernel_rfl) (by kernel_rfl) (by kernel_rfl) (fun _ _ _ h => h) (Or.inl ⟨by rfl, ?_⟩) hHeld ?_
            rotate_left
            · (intro w hSw; (try dsimp only at hSw); go_simp; try with_reducible rfl)
            try simp only [Act.put, List.setIfInBounds_toArray, List.set_cons_zero, List.set_cons_succ]
            refine wpAnyH_take (i := 26) (v := ?_) (by simp only [List.getElem?_toArray, List.getElem?_cons_succ, List.getElem?_cons_zero]; rfl) (by kernel_rfl) (by kernel_rfl) (by kernel_rfl) (fun _ _ _ h => h) (Or.inl ⟨by rfl, ?_⟩) hHeld ?_
            rotate_left
            · (intro w hSw; (try dsimp only at hSw); go_simp; try with_reducible rfl)
            try simp only [Act.put, List.setIfInBounds_toArray, List.set_cons_zero, List.set_cons_succ]
            refine wpAnyH_take (i := 27) (v := ?_) (by simp only [List.getElem?_toArray, List.getElem?_cons_succ, List.getElem?_cons_zero]; rfl) (by kernel_rfl) (by kernel_rfl) (by kernel_rfl) (fun _ _ _ h => h) (Or.inl ⟨by rfl, ?_⟩) hHeld ?_
            rotate_left
            · (intro w hSw; (try dsimp only at hSw); go_simp; try with_reducible rfl)
            try simp only [Act.put, List.setIfInBounds_toArray, List.set_cons_zero, List.set_cons_succ]
            refine wpAnyH_ready (rs := [28]) (by kernel_rfl) (by simp) ?_
            refine AllReadyH.cons rfl (fun K hK => ?_) AllReadyH.nil
            go_simp
            (refine (mewsref10_Less.calls r[j].f0 r[j].f1 r[j + 1].f0 r[j + 1].f1 true _ ((lessZ_f r[j] r[j + 1]).trans (by rw [HLESS.out]))).mono ?_; rintro en w5 ⟨rfl, hb5⟩; have HSe := Lib.hid (HSd.out.below hb5); clear hb5; go_simp)
            refine hK.out _ _ ?_ (fun hHeld => ?_)
            · exact cellsR hj HSe.out
            clear hK K
            try simp only [Act.put, List.setIfInBounds_toArray, List.set_cons_zero, List.set_cons_succ]
            refine wpAnyH_take (i := 29) (v := ?_) (by simp only [List.getElem?_toArray, List.getElem?_cons_succ, List.getElem?_cons_zero]; rfl) (by kernel_rfl) (by kernel_rfl) (by kernel_rfl) (fun _ _ _ h => h) (Or.inl ⟨by rfl, ?_⟩) hHeld ?_
            rotate_left
            · (intro w hSw; (try dsimp only at hSw); go_simp; try with_reducible rfl)
            try simp only [Act.put, List.setIfInBounds_toArray, List.set_cons_zero, List.set_cons_succ]
            refine wpAnyH_take (i := 30) (v := ?_) (by simp only [List.getElem?_toArray, List.getElem?_cons_succ, List.getElem?_cons_zero]; rfl) (by kernel_rfl) (by kernel_rfl) (by kernel_rfl) (fun _ _ _ h => h) (Or.inl ⟨by rfl, ?_⟩) hHeld ?_
            rotate_left
            · (intro w hSw; (try dsimp only at hSw); go_simp; try with_reducible rfl)
            try simp only [Act.put, List.setIfInBounds_toArray, List.set_cons_zero, List.set_cons_succ]
            refine wpAnyH_take (i := 31) (v := ?_) (by simp only [List.getElem?_toArray, List.getElem?_cons_succ, List.getElem?_cons_zero]; rfl) (by kernel_rfl) (by kernel_rfl) (by kernel_rfl) (fun _ _ _ h => h) (Or.inl ⟨by rfl, ?_⟩) hHeld ?_
            rotate_left
            · (intro w hSw; (try dsimp only at hSw); go_simp; try with_reducible rfl)
            try simp only [Act.put, List.setIfInBounds_toArray, List.set_cons_zero, List.set_cons_succ]
            refine wpAnyH_done (by kernel_rfl) ?_ _
            refine NoPanic.normal ?_
            -- END B
            have HSf : Hid (Sat w w5 (rS (.slice (some ⟨g, 0, none⟩) r.length c) r * (zs b r * old w))) := Lib.hid HSe.out.drop1
            clear HSB HSc HSd HSe hHeld hw1 hw2 hw3
            go_wp2_with fail
            go_roundw
            case rel => exact ⟨j + 1 + 1, by simp, by omega, HSf⟩
            case measure => simp [RowKit.intOf]; omega
        · have HHAS : Hid (∀ j (h : j < l.length), (findS r l[j].f0).isSome = true) := Lib.hid (fun j h => by
            have := puts_has HSZ.out (by have := HLEN.out; omega) l.length (Nat.le_refl _) j h h
            rw [List.take_of_length_le (Nat.le_refl _), ← HRR.out] at this
            exact this)
          go_wp2_with fail
          go_loopw [96] (fun v96 wr => ∃ i : Nat, v96 = .int .i64 i ∧ i ≤ l.length ∧ Hid (Sat w wr (rS (.slice A r.length c) r * (zs b r * old w)))) (fun v96 _ => l.length - (RowKit.intOf v96).toNat)
          case atStart => exact ⟨0, rfl, by omega, HSi⟩
          case round =>
            clear HSi
            obtain ⟨i, rfl, hi, HSi⟩ := hrel
            by_cases hlt : i < l.length
            · obtain ⟨ad, e1, hx0, hx1⟩ := argZ HR.out HSi.out.drop1.drop1.old1 hlt
              subst e1
              have HKS : Hid (l[i].f0.size ≤ maxLen) := Lib.hid (HSZ.out _ (List.getElem_mem hlt))
              have HGE := Lib.hid (rk_ge (HHAS.out i hlt))
              obtain ⟨ob, hob⟩ : ∃ ob, ob = wr.heap.size := ⟨_, rfl⟩
              have SA := HSi.out.alloc (.cells #[.string l[i].f0, .int .i64 l[i].f1] 30)
              rw [← hob] at SA
              have HSA := Lib.hid SA
              have HOB := Lib.hid hob
              clear SA hob HSi
              go_upto_region 24 with (fail)
              rw [← HOB.out]
              clear hx0 hx1
              refine gen_w HSA.out ?_
              clear HSA HOB
              intro wq SB
              obtain ⟨b0, b1, -⟩ := blk2 SB.blk
              have HSB := Lib.hid SB
              clear SB
              go_wp2_with fail
              refine (zsRank3 HKS.out HSB.out).mono ?_
              rintro en w3 ⟨rfl, S3⟩
              have hge : decide (rkS r l[i].f0 false < 0) = false := by have := HGE.out; simp; omega
              have HSc : Hid (Sat w w3 (rS (.slice A r.length c) r * (zs b r * old w))) := Lib.hid S3.drop1
              clear S3 HSB b0 b1
              go_wp2_with fail
              go_roundw
              case rel => exact ⟨i + 1, by simp, by omega, HSc⟩
              case measure => simp [RowKit.intOf]; omega
            · go_wp2_with fail
              refine (zsLen HSi.out.p2).mono ?_
              rintro en w' ⟨rfl, rfl⟩
              go_wp2_with fail
              refine (aliveZs HSi.out).mono ?_
              rintro en w5 ⟨rfl, S5⟩
              have HS5 := Lib.hid S5.drop1.drop1.old1
              clear S5 HSi
              go_wp2_with fail
              go_ret
              exact ⟨rfl, HS5.out⟩
end Go.Sl
/-! ### LawZsRW -/
namespace Go.Sl
open Go.RowKit Go.Proofs Go.Proofs.YteakblblpiihpaaW.PrintWords Go.Proofs.Yteakblblpiihpaa.PZs
theorem risesZsWalk {w : World} {A0 : Option Addr} {c0 : Nat} {l : List Sc} (hC : Kd.C k30 w A0 l.length l) (hc : l.length ≤ c0) (_ : ∀ x ∈ l, x.f0.size ≤ maxLen ∧ (Lit.int .i64 x.f1).wf = true) :
    Calls Try.prog 3 #[.slice A0 l.length c0] w fun en w' => en = .returned (.bool true) ∧ Below w.heap.size w w' := risesZs hC hc
end Go.Sl
/-! ### RowZsetRises -/
namespace Go.Proofs.Yteakblblpiihpaa.zsetRises
open Go.ChangeShapes Go.WideShapes Go.ChangeAt Go.RowKit Go.Sl Go.Proofs.YteakblblpiihpaaW.PrintWords
open Go.ChangeMaps (open_string shut_string)
set_option linter.unusedVariables false
theorem own : ownKnob Try.prog.godebug = none := by kernel_rfl
theorem laidOut : laidOutB Try.prog = true := by kernel_rfl
set_option maxRecDepth 100000 in
theorem lifted (os : Os) (started : os.Started) (H : Type) (enc : TypeId × Value → H) :
    ReturnsInHanded {} Try.checked os 3 .any (Rows.zsetRisesSpec.pre6 enc Try.prog Try.f3 Rows.zsetRisesRow.domain false) (Rows.zsetRisesSpec.post enc Try.prog Try.f3 false true false false) := by
  refine returnsInHanded_of_change_sized (C := Try.checked) own started (by kernel_rfl) Try.func3
    (ChangeSpec.witness6 (enc := enc) (C := Try.checked) false ⟨#[], #[.slice none 0 0], []⟩ 8 (by kernel_rfl) (by kernel_rfl) (by kernel_rfl) (by kernel_rfl)) ?_
  intro W base args ds gs before hval0 hW hcnd hsz0 _
  have hval : ∀ (j : Nat) t v, Try.f3.params[j]? = some t → args[j]? = some v → Value.okWide Try.prog W .any base t v := hval0
  have hW' := hW
  obtain ⟨p, q, hA0, hV, rfl, hfz, hnd⟩ := hW
  have hA : DataW.TrodAll enc Try.prog W 0 (fun _ => true) true Try.f3.params.toList args.toList ds p := hA0
  rw [Try.params3] at hA hval
  obtain ⟨v0, vs0, d0, ds0, p0, q0, hargs, rfl, rfl, h0, r0⟩ := trodAll_cons hA
  obtain ⟨rfl, rfl, rfl⟩ := trodAll_nil r0
  obtain rfl : args = #[v0] := by cases args; simp_all
  obtain ⟨rfl, rfl⟩ := trodVars_none hV
  obtain ⟨a0, len0, cap0, rfl⟩ := okWide_slice Try.underlying22 (hval 0 22 v0 rfl rfl)
  have k0 := h0
  have lt0 : ∀ x ∈ p0, x.block < W.heap.size := by obtain ⟨m, hm⟩ := k0; exact DataW.trod_lt m _ _ _ hm
  obtain ⟨l0, rfl, hc0, hC0, hk0⟩ := (opensScs).arg h0
  clear hA0 hval0 hsz0
  refine (Go.Sl.risesZsWalk hC0 hc0 hk0).mono fun e W' ⟨he, bel⟩ => ?_
  subst he
  exact ⟨_, rfl, _, _, _, [], _, [], hW', trodAll_mk1 (shut_bool Try.underlying4 _), (trodAll_cons_mk (Below.trod laidOut (by kernel_rfl) (of_decide_eq_true (by kernel_rfl)) k0 bel lt0) trodAll_mk0), rfl, bel.frame _, fun h => by cases h⟩
theorem over : Rows.zsetRisesRow.holds Try.pinned (OpenSpec.ofChange Rows.zsetRisesSpec) :=
  OpenClaim.holds_of_wide 3 Try.f3 rfl rfl rfl rfl rfl rfl rfl ⟨rfl, rfl, rfl, rfl, rfl⟩ rfl rfl rfl rfl rfl (by kernel_rfl) Try.func3 (by kernel_rfl)
    (of_decide_eq_true (by kernel_rfl)) (by unfold Func.isWrapper; first | (rw [if_pos (by decide +kernel)]; kernel_rfl) | (rw [if_neg (by decide +kernel)]; exact ⟨rfl, rfl⟩))
    (fun os started H enc _ => lifted os started H enc)
end Go.Proofs.Yteakblblpiihpaa.zsetRises
namespace Go.Proofs.Yteakblblpiihpaa
theorem zsetRises_holds : Rows.ZsetRisesSaid := zsetRises.over
#print axioms zsetRises_holds
end Go.Proofs.Yteakblblpiihpaa
