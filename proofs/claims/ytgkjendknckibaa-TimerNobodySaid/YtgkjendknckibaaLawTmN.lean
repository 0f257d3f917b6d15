/-
  'mewslaw11.TimerNobody': the walk.
-/
import Derived.Test.YtgkjendknckibaaLawTmL
import Derived.Laws.StructEq
namespace Go.Sl
open Go.RowKit Go.Proofs Go.Proofs.YtgkjendknckibaaW.PrintWords Go.Proofs.Ytgkjendknckibaa.PTim
set_option linter.unusedVariables false
set_option linter.unusedSimpArgs false
set_option maxRecDepth 100000

/-- An argument that is a struct. -/
theorem Opens.argS {P : Program} {t : TypeId} {α : Type} {d : Kd α} {ok : α → Prop} (h : Opens P t d ok) {H : Type} {enc : TypeId × Value → H} {w : World} {base : Nat} {sp : Nat → Bool} {held : Bool} {cs : Array Value} {D : DataW H} {p : List MemPlace}
    (ht : DataW.Trod enc P w base sp held t (.agg cs) D p) : ∃ x : α, d.K w x cs.toList ∧ ok x := by
  obtain ⟨fuel, hf⟩ := ht
  obtain ⟨x, hx, hk⟩ := h.out hf
  exact ⟨x, hx, hk⟩
/-- A row of one. -/
theorem C_one {α : Type} {d : Kd α} {w : World} {ob : Nat} {cs : Array Value} {t : TypeId} {x : α} (hb : w.heap[ob]? = some (.cells cs t (0, 0))) (hK : d.K w x cs.toList) : Kd.C d w (some ⟨ob, 0, none⟩) [x].length [x] := by
  refine ⟨rfl, by simp, fun _ => ⟨_, rfl, fun j p hp => ?_⟩⟩
  have hj : j = 0 := by
    have := (List.getElem?_eq_some_iff.1 hp).1
    simp at this; exact this
  subst hj
  simp only [List.getElem?_cons_zero, Option.some.injEq] at hp
  subst hp
  refine ⟨cs.toList, d.K_len hK, hK, fun i u hi => ?_⟩
  have e1 : (⟨ob, 0, none⟩ : Addr).add (0 * d.sz + i) = ⟨ob, i, none⟩ := by
    unfold Addr.add
    by_cases h : i = 0 <;> simp [h]
  rw [e1]
  exact cell_of hb i (by simpa using hi)
theorem cells3 {w0 w : World} {b : Nat} {x0 x1 x2 : Value} {t : TypeId} {R : HP} (S : Sat w0 w (pts b (.cells #[x0, x1, x2] t (0, 0)) * R)) :
    w.cell? ⟨b, 0, none⟩ = some x0 ∧ w.cell? ⟨b, 1, none⟩ = some x1 ∧ w.cell? ⟨b, 2, none⟩ = some x2 := by
  obtain ⟨a0, a1, a2, _⟩ := blk3 S.blk
  exact ⟨a0, a1, a2⟩
theorem tail3 (A B C D : HP) : A * (B * (C * D)) = C * (A * (B * D)) := by ac_rfl
theorem tail4 (A B C D E : HP) : A * (B * (C * (D * E))) = D * (A * (B * (C * E))) := by ac_rfl
theorem tmNeq (w : World) : (binOp .neq 36 (.agg #[.string ⟨#[]⟩, .int .i64 0]) (.agg #[.string ⟨#[]⟩, .int .i64 0])).run Try.prog w = .ok (.bool false) w := by
  rw [run_neq_struct]; kernel_rfl
attribute [local go_sem] tmNeq
set_option maxHeartbeats 16000000 in
theorem tmNobodyWalk {w : World} {x : Opt} {cs : Array Value} (hK : k28.K w x cs.toList) (hok : (Lit.int .i64 x.f2).wf = true) :
    Calls Try.prog 6 #[.agg cs] w fun en w' => en = .returned (.bool true) ∧ Below w.heap.size w w' := by
  have ecs := k28_open hK
  obtain ⟨kd, key, tt⟩ := x
  simp only at ecs
  obtain rfl : cs = #[.int .i64 kd, .string key, .int .i64 tt] := by
    cases cs; simp only at ecs; rw [ecs]
  clear ecs hK hok
  obtain ⟨wb, hwb⟩ : ∃ wb, wb = w.heap.size := ⟨_, rfl⟩
  have S1 := ((Sat.start w).alloc (.cells #[.int .i64 kd, .string key, .int .i64 tt] 28)).alloc (.cells #[.int .i64 kd, .string key, .int .i64 tt] 28)
  simp only [World.size_alloc] at S1
  rw [← hwb] at S1
  have hCo := C_one (d := k28) (x := ⟨kd, key, tt⟩) S1.blk (k28_mk _ ⟨kd, key, tt⟩)
  obtain ⟨far, hfar⟩ : ∃ b, farB [(⟨kd, key, tt⟩ : Opt)] = b := ⟨_, rfl⟩
  have HF := Lib.hid ((far_f (l := [(⟨kd, key, tt⟩ : Opt)]) (by simp)).trans (by rw [hfar]))
  have HCO := Lib.hid hCo
  have HS1 := Lib.hid S1
  have HWB := Lib.hid hwb
  have hx := blk3 S1.p2.blk
  clear hfar hCo S1 hwb
  go_enter Try.func6, Try.ntmps6
  go_wp2_with fail
  rw [← HWB.out]
  refine (mewslaw11_far.calls 2 (some ⟨wb + 1, 0, none⟩) 1 [⟨kd, key, tt⟩] far _ HCO.out (by simp) HF.out).mono ?_
  rintro en w1 ⟨rfl, hb⟩
  have HS2 := Lib.hid (HS1.out.below hb).drop1
  clear hb HF HWB HCO HS1 hx
  cases far with
  | true =>
    go_wp2_with fail
    refine (aliveTm HS2.out).mono ?_
    rintro en w5 ⟨rfl, S5⟩
    have HS5 := Lib.hid S5.drop1.old1
    clear S5
    go_wp2_with fail
    go_ret
    exact ⟨rfl, HS5.out⟩
  | false =>
    obtain ⟨a0, a1, a2, af⟩ := blk3 HS2.out.blk
    go_wp2_with fail
    refine (tmAt_nil _ _).mono ?_
    rintro en w2 ⟨rfl, rfl⟩
    clear a0 a1 a2 af
    go_wp2_with fail
    refine (tmFirst_nil HS2.out).mono ?_
    rintro en w3 ⟨rfl, S3⟩
    obtain ⟨wd, hwd⟩ : ∃ s, s = w3.heap.size := ⟨_, rfl⟩
    have S4 := S3.alloc (.cells #[.string ⟨#[]⟩, .int .i64 0] 36)
    rw [← hwd] at S4
    obtain ⟨a0, a1, a2, af⟩ := blk3 S3.blk
    have hlt := S3.lt
    obtain ⟨c0, c1, cf⟩ := blk2 S4.blk
    have HS3 := Lib.hid S4
    have HWD := Lib.hid hwd
    clear S3 S4 HS2 hwd
    go_wp2_with fail
    refine (tmSet_nil _ _ _).mono ?_
    rintro en w4 ⟨rfl, rfl⟩
    go_wp2_with fail
    refine (tmDrop_nil _ _).mono ?_
    rintro en w4 ⟨rfl, rfl⟩
    go_wp2_with fail
    refine (tmDue_nil _ _).mono ?_
    rintro en w4 ⟨rfl, rfl⟩
    go_wp2_with fail
    refine (tmLen_nil _).mono ?_
    rintro en w4 ⟨rfl, rfl⟩
    go_wp2_with fail
    refine (tmAll_nil _).mono ?_
    rintro en w4 ⟨rfl, rfl⟩
    clear a0 a1 a2 af hlt c0 c1 cf
    go_upto_region 8 with (fail)
    refine gen_w HS3.out ?_
    clear HS3
    intro W S5
    obtain ⟨u, hu⟩ : ∃ s, s = W.heap.size := ⟨_, rfl⟩
    have S6 := S5.drop1.alloc (.cells #[.slice none 0 0, .map none] 53)
    rw [← hu] at S6
    obtain ⟨a0, a1, a2, af⟩ := blk3 S6.p2.blk
    have HS6 := Lib.hid S6
    have HU := Lib.hid hu
    clear S5 S6 hu
    go_wp2_with fail
    rw [← HU.out]
    refine (tmAt_zero HS6.out).mono ?_
    rintro en w4 ⟨rfl, rfl⟩
    clear a0 a1 a2 af
    go_upto_region 10 with (fail)
    have hc3 := cells3 HS6.out.p2
    have HS := HS6
    clear HS6 HU HWD
    go_region_held3 (fun w' => w'.cell? ⟨wb, 0, none⟩ = some (.int .i64 kd) ∧ w'.cell? ⟨wb, 1, none⟩ = some (.string key) ∧ w'.cell? ⟨wb, 2, none⟩ = some (.int .i64 tt))
      (first
        | exact cells3 HSf.out
        | exact cells3 HSe.out
        | exact cells3 (HSd.out.cong (tail4 _ _ _ _ _))
        | exact cells3 ((HSb.out.alloc _).cong (tail4 _ _ _ _ _))
        | exact cells3 (HSb.out.cong (tail3 _ _ _ _))
        | exact cells3 ((HSa.out.alloc _).cong (tail3 _ _ _ _))
        | exact cells3 HSa.out.p2 | exact cells3 HS.out.drew.p2 | exact cells3 HS.out.p2)
      ((first
        | (go_at_call 22; refine (tmDrop_zero HS.out.drew).mono ?_; rintro en w' ⟨rfl, rfl⟩)
        | (go_at_call 14; refine (tbSet_zero HS.out.drew).mono ?_; rintro en wa ⟨rfl, Sa⟩; have HSa := Lib.hid Sa; clear Sa)
        | (go_at_call 15; refine (tbAll HSa.out).mono ?_; rintro en wc ⟨v, rfl, Sb⟩; obtain ⟨A8, c8, rfl, hc8, -⟩ := Sat.row_C flatT rfl Sb; have HSb := Lib.hid Sb; have HC8 := Lib.hid hc8; clear Sb hc8)
        | (go_at_call 15; refine (tbAll (HSa.out.alloc (.cells #[.string key, .int .i64 tt] 36)).p2).mono ?_; rintro en wc ⟨v, rfl, Sb⟩; obtain ⟨A8, c8, rfl, hc8, -⟩ := Sat.row_C flatT rfl Sb; have HSd := Lib.hid Sb; have HC8 := Lib.hid hc8; clear Sb hc8)
        | (go_at_call 20; refine (mewsref11_Same.calls 2 A8 c8 [⟨key, tt⟩] _ 1 [⟨key, tt⟩] true _ (Sat.row_C_at flatT rfl (HSb.out.alloc (.cells #[.string key, .int .i64 tt] 36)).p2) HC8.out (C_one (d := k36) (HSb.out.alloc (.cells #[.string key, .int .i64 tt] 36)).blk (k36_mk _ ⟨key, tt⟩)) (by simp) (rsame_f [⟨key, tt⟩] (by simp))).mono ?_; rintro en wd ⟨rfl, hd⟩; have HSe := Lib.hid (drawn_sat (HSb.out.alloc (.cells #[.string key, .int .i64 tt] 36)).drop1.drop1.drop1 hd); clear hd)
        | (go_at_call 20; refine (mewsref11_Same.calls 2 A8 c8 [⟨key, tt⟩] _ 1 [⟨key, tt⟩] true _ (Sat.row_C_at flatT rfl HSd.out) HC8.out (C_one (d := k36) HSd.out.p3.blk (k36_mk _ ⟨key, tt⟩)) (by simp) (rsame_f [⟨key, tt⟩] (by simp))).mono ?_; rintro en wd ⟨rfl, hd⟩; have HSe := Lib.hid (drawn_sat HSd.out.drop1.drop1.drop1 hd); clear hd)
        | (go_at_call 12; refine (aliveTm HSe.out).mono ?_; rintro en wf ⟨rfl, Sf⟩; have HSf := Lib.hid Sf; clear Sf)))
    all_goals
      have HR := Lib.hid HSf.out.drop1.old1
      clear HSf HSe HSa HS
      go_wp2_with fail
      go_ret
      exact ⟨rfl, HR.out⟩
end Go.Sl
