/-
  'mewslaw38.WaitNobody': the walk.
-/
import Derived.Test.YtddkongfhffajaaLawWaitW
import Derived.Test.YtddkongfhffajaaWaitZ
import Derived.Test.YtddkongfhffajaaWMore
namespace Go.Sl
open Go.RowKit Go.Proofs Go.Proofs.YtddkongfhffajaaW.PrintWords Go.Proofs.Ytddkongfhffajaa.PWaitOrder
set_option linter.unusedVariables false
set_option linter.unusedSimpArgs false
set_option maxRecDepth 100000
open Go.Proofs.YtddkongfhffajaaW.PrintMore in
attribute [local go_sem] min2_int min_two

/-- An argument that is a struct. -/
theorem Opens.argS {P : Program} {t : TypeId} {α : Type} {d : Kd α} {ok : α → Prop} (h : Opens P t d ok) {H : Type} {enc : TypeId × Value → H} {w : World} {base : Nat} {sp : Nat → Bool} {held : Bool} {cs : Array Value} {D : DataW H} {p : List MemPlace}
    (ht : DataW.Trod enc P w base sp held t (.agg cs) D p) : ∃ x : α, d.K w x cs.toList ∧ ok x := by
  obtain ⟨fuel, hf⟩ := ht
  obtain ⟨x, hx, hk⟩ := h.out hf
  exact ⟨x, hx, hk⟩
/-- A row of one. -/
theorem C_one {α : Type} {d : Kd α} {w : World} {ob : Nat} {cs : Array Value} {t : TypeId} {x : α} (hb : w.heap[ob]? = some (.cells cs t (0, 0))) (hK : d.K w x cs.toList) : Kd.C d w (some ⟨ob, 0, none⟩) [x].length [x] := by
  refine ⟨rfl, by simp, fun _ => ⟨_, rfl, fun j p hp => ?_⟩⟩
  have hj : j = 0 := by
    have := (List.getElem?_eq_some_iff.1 hp).1
    simp at this; exact this
  subst hj
  simp only [List.getElem?_cons_zero, Option.some.injEq] at hp
  subst hp
  refine ⟨cs.toList, d.K_len hK, hK, fun i u hi => ?_⟩
  have e1 : (⟨ob, 0, none⟩ : Addr).add (0 * d.sz + i) = ⟨ob, i, none⟩ := by
    unfold Addr.add
    by_cases h : i = 0 <;> simp [h]
  rw [e1]
  exact cell_of hb i (by simpa using hi)

theorem cells7 {w0 w : World} {b : Nat} {x0 x1 x2 x3 x4 x5 x6 : Value} {t : TypeId} {R : HP} (S : Sat w0 w (pts b (.cells #[x0, x1, x2, x3, x4, x5, x6] t (0, 0)) * R)) :
    w.cell? ⟨b, 0, none⟩ = some x0 ∧ w.cell? ⟨b, 1, none⟩ = some x1 ∧ w.cell? ⟨b, 2, none⟩ = some x2 ∧ w.cell? ⟨b, 3, none⟩ = some x3 ∧ w.cell? ⟨b, 4, none⟩ = some x4 ∧ w.cell? ⟨b, 5, none⟩ = some x5 ∧ w.cell? ⟨b, 6, none⟩ = some x6 := by
  obtain ⟨a0, a1, a2, a3, a4, a5, a6, _⟩ := blk7 S.blk
  exact ⟨a0, a1, a2, a3, a4, a5, a6⟩
theorem nobody_ac (A B C D : HP) : A * (B * (C * D)) = A * (D * (B * C)) := by ac_rfl
set_option maxHeartbeats 16000000 in
theorem waitNobodyWalk {w : World} {x : S50} {cs : Array Value} (hK : k50.K w x cs.toList) (hok : x.f1.length ≤ 9223372036854775807) (key : ByteArray) (_ : key.size ≤ maxLen) :
    Calls Try.prog 8 #[.agg cs, .string key] w fun en w' => en = .returned (.bool true) ∧ Below w.heap.size w w' := by
  obtain ⟨A1, c1, ecs, hl1, hC1⟩ := k50_open hK
  obtain rfl : cs = #[.int .i64 x.f0, .slice A1 x.f1.length c1, .bool x.f2, .bool x.f3, .string x.f4, .bool x.f5, .int .i64 x.f6] := by
    cases cs; simp only at ecs; rw [ecs]
  clear ecs hK
  obtain ⟨wb, hwb⟩ : ∃ wb, wb = w.heap.size := ⟨_, rfl⟩
  have S1 := ((Sat.start w).alloc (.cells #[.int .i64 x.f0, .slice A1 x.f1.length c1, .bool x.f2, .bool x.f3, .string x.f4, .bool x.f5, .int .i64 x.f6] 50)).alloc (.cells #[.int .i64 0, .int .i64 x.f0, .slice A1 x.f1.length c1, .bool x.f2, .bool x.f3, .string x.f4, .bool x.f5, .int .i64 x.f6] 52)
  simp only [World.size_alloc] at S1
  rw [← hwb] at S1
  have hC2 := Kd.C_below hC1 S1.p3'.old
  have hCo := C_one (d := k52) (x := ⟨0, x⟩) S1.blk (k52_mk _ ⟨0, x⟩ hl1 hC2)
  obtain ⟨k, far, hfar, hbig⟩ := far38_f (l := [⟨0, x⟩]) (by simp) (by simpa using hok)
  have HF := Lib.hid hfar
  have HBG := Lib.hid hbig
  have HCO := Lib.hid hCo
  have HC1 := Lib.hid hC1
  have HS1 := Lib.hid S1
  have HWB := Lib.hid hwb
  have hx := blk7 S1.p2.blk
  clear hfar hbig hCo hC1 hC2 S1 hwb
  go_enter Try.func8, Try.ntmps8
  go_wp2_with fail
  rw [← HWB.out]
  refine (mewslaw38_far.calls k (some ⟨wb + 1, 0, none⟩) 1 [⟨0, x⟩] far _ HCO.out (by simp) HF.out).mono ?_
  rintro en w1 ⟨rfl, hb⟩
  have HS2 := Lib.hid (HS1.out.below hb).p2
  clear hb HF HWB HCO HS1 hx
  cases far with
  | true =>
    go_wp2_with fail
    refine (aliveWait HS2.out).mono ?_
    rintro en w5 ⟨rfl, S5⟩
    have HS5 := Lib.hid S5.drop1.drop1.old1
    clear S5
    go_wp2_with fail
    go_ret
    exact ⟨rfl, HS5.out⟩
  | false =>
    have hks := (HBG.out rfl).2 ⟨0, x⟩ (by simp)
    simp only at hks
    clear HBG
    by_cases hsz : (key.size : Int) > 300
    · go_wp2_with fail
      refine (aliveWait HS2.out).mono ?_
      rintro en w5 ⟨rfl, S5⟩
      have HS5 := Lib.hid S5.drop1.drop1.old1
      clear S5
      go_wp2_with fail
      go_ret
      exact ⟨rfl, HS5.out⟩
    · obtain ⟨a0, a1, a2, a3, a4, a5, a6, af⟩ := blk7 HS2.out.blk
      go_wp2_with fail
      clear a0 a1 a2 a3 a4 a5 a6 af
      refine (wtDrop_nil HS2.out).mono ?_
      rintro en w2 ⟨rfl, S3⟩
      have HS3 := Lib.hid ((S3.alloc (.cells #[.int .i64 0, .slice none 0 0, .bool false, .bool false, .string ⟨#[]⟩, .bool false, .int .i64 0] 50)).drop1)
      clear S3 HS2 hsz
      go_wp2_with fail
      refine (wtFirst_nil HS3.out).mono ?_
      rintro en w3 ⟨rfl, S4⟩
      have S5 := ((S4.alloc (.cells #[.int .i64 0, .slice none 0 0, .bool false, .bool false, .string ⟨#[]⟩, .bool false, .int .i64 0] 50)).drop1)
      obtain ⟨a0, a1, a2, a3, a4, a5, a6, af⟩ := blk7 S4.blk
      have hlt := S4.lt
      have HS5 := Lib.hid S5
      clear S4 S5 HS3
      go_wp2_with fail
      clear a0 a1 a2 a3 a4 a5 a6 af hlt
      refine (wtAdd_nil HS5.out).mono ?_
      rintro en w4 ⟨rfl, S6⟩
      have HS6 := Lib.hid S6
      clear S6 HS5
      go_wp2_with fail
      refine (wtDue_nil HS6.out).mono ?_
      rintro en w5 ⟨rfl, S7⟩
      obtain ⟨a0, a1, a2, a3, a4, a5, a6, af⟩ := blk7 S7.blk
      have HS7 := Lib.hid S7
      clear S7 HS6
      go_wp2_with fail
      refine (wtHas_nil _ _).mono ?_
      rintro en w6 ⟨rfl, rfl⟩
      go_wp2_with fail
      refine (wtLen_nil _).mono ?_
      rintro en w6 ⟨rfl, rfl⟩
      clear a0 a1 a2 a3 a4 a5 a6 af
      go_wp2_with fail
      refine (wtAll_nil HS7.out).mono ?_
      rintro en w7 ⟨rfl, S8⟩
      obtain ⟨s, hs⟩ : ∃ s, s = w7.heap.size := ⟨_, rfl⟩
      have S9 := S8.alloc (.cells #[.map none, .map none, .int .i64 0] 75)
      rw [← hs] at S9
      have HS9 := Lib.hid S9
      have HSS := Lib.hid hs
      clear S8 S9 HS7 hs
      go_wp2_with fail
      rw [← HSS.out]
      refine (wtFirst_zero HS9.out).mono ?_
      rintro en w8 ⟨rfl, S10⟩
      have HS10 := Lib.hid ((S10.alloc (.cells #[.int .i64 0, .slice none 0 0, .bool false, .bool false, .string ⟨#[]⟩, .bool false, .int .i64 0] 50)).drop1)
      clear S10 HS9 HSS
      go_upto_region 10 with (fail)
      refine gen_w HS10.out ?_
      clear HS10
      intro W S11
      by_cases hz : x.f1.length = 0
      · rw [hz] at S11
        have hc7 := cells7 S11.p2
        have HS := Lib.hid S11
        clear S11
        simp only [hz]
        go_region_held3 (fun w' => w'.cell? ⟨wb, 0, none⟩ = some (.int .i64 x.f0) ∧ w'.cell? ⟨wb, 1, none⟩ = some (.slice A1 0 c1) ∧ w'.cell? ⟨wb, 2, none⟩ = some (.bool x.f2) ∧ w'.cell? ⟨wb, 3, none⟩ = some (.bool x.f3) ∧
            w'.cell? ⟨wb, 4, none⟩ = some (.string x.f4) ∧ w'.cell? ⟨wb, 5, none⟩ = some (.bool x.f5) ∧ w'.cell? ⟨wb, 6, none⟩ = some (.int .i64 x.f6)) (first | exact cells7 HSc.out.p2 | exact cells7 HSb.out.p2 | exact cells7 HS.out.drew.p2 | exact cells7 HS.out.p2)
          ((first
            | (go_at_call 37; refine (wtLen_zero HSb.out).mono ?_; rintro en w' ⟨rfl, rfl⟩)
            | (go_at_call 37; refine (wtLen_zero HS.out.drew).mono ?_; rintro en w' ⟨rfl, rfl⟩)
            | (go_at_call 27; refine (wtAdd_none HS.out.drew).mono ?_; rintro en wa ⟨rfl, Sb⟩; have HSb := Lib.hid Sb; clear Sb)
            | (go_at_call 23; refine (aliveWait HSb.out).mono ?_; rintro en wc ⟨rfl, Sc⟩; have HSc := Lib.hid Sc; clear Sc)))
        all_goals
          have HR := Lib.hid HSc.out.drop1.drop1.drop1.old1
          clear HSc HSb HS
          go_wp2_with fail
          go_ret
          exact ⟨rfl, HR.out⟩
      · have hz0 : 0 < x.f1.length := by omega
        obtain ⟨ad, rfl, _⟩ := HC1.out.2.2 hz0
        have hpos : (0 : Int) < (x.f1.length : Int) := by omega
        have hmin : (if (1 : Int) < (x.f1.length : Int) then (1 : Int) else (x.f1.length : Int)) = 1 := by
          split <;> omega
        have hc7 := cells7 S11.p2
        have HS := Lib.hid S11
        clear S11
        go_region_held3 (fun w' => w'.cell? ⟨wb, 0, none⟩ = some (.int .i64 x.f0) ∧ w'.cell? ⟨wb, 1, none⟩ = some (.slice (some ad) x.f1.length c1) ∧ w'.cell? ⟨wb, 2, none⟩ = some (.bool x.f2) ∧ w'.cell? ⟨wb, 3, none⟩ = some (.bool x.f3) ∧
            w'.cell? ⟨wb, 4, none⟩ = some (.string x.f4) ∧ w'.cell? ⟨wb, 5, none⟩ = some (.bool x.f5) ∧ w'.cell? ⟨wb, 6, none⟩ = some (.int .i64 x.f6)) (first | exact cells7 HSc.out.p3 | exact cells7 HSb.out.p3 | exact cells7 HS.out.drew.p2 | exact cells7 HS.out.p2)
          ((first
            | (go_at_call 37; refine (wtLen HSb.out).mono ?_; rintro en w' ⟨rfl, rfl⟩)
            | (go_at_call 37; refine (wtLen_zero HS.out.drew).mono ?_; rintro en w' ⟨rfl, rfl⟩)
            | (go_at_call 27; refine (wtAdd_zero hz0 hks (reads_old HC1.out) (HS.out.drew.cong (nobody_ac _ _ _ _))).mono ?_; rintro en wa ⟨rfl, g, cap, Sb⟩; have HSb := Lib.hid Sb; clear Sb)
            | (go_at_call 23; refine (aliveWait HSb.out).mono ?_; rintro en wc ⟨rfl, Sc⟩; have HSc := Lib.hid Sc; clear Sc)))
        all_goals
          have HR := Lib.hid HSc.out.drop1.take1.old1
          clear HSc HSb HS
          go_wp2_with fail
          go_ret
          exact ⟨rfl, HR.out⟩
end Go.Sl
