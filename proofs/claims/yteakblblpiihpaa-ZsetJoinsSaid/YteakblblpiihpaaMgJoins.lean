/-
  'mewslaw24.ZsetJoins' answers true at every input: any lists joined, with any weights, all members or those of each, are the document's, or refused. No condition.
  'mewslaw24.ZsetJoins': the walk, for the row.
  'mewslaw24.ZsetJoins': the walk.
  Rows of rows of pairs, owned: made by append, and read.
-/
import Derived.Test.YteakblblpiihpaaMgH
import Derived.Test.YteakblblpiihpaaMgA
import Derived.Test.YteakblblpiihpaaMgE
import Derived.Test.YteakblblpiihpaaRows
import Derived.WalkKit
import Derived.ProofKit
import Derived.OpenShut
import Derived.ShutString
import Derived.ChangeOld
import Derived.Below
import Derived.SizedLaws
import Derived.Carry
/-! ### Jw -/
namespace Go.Sl
open Go.RowKit Go.Proofs Go.Proofs.YteakblblpiihpaaW.PrintWords Go.Proofs.Yteakblblpiihpaa.PZs
set_option linter.unusedVariables false
set_option linter.unusedSimpArgs false
set_option maxRecDepth 100000

/-- A row of rows. -/
def rM (v : Value) (ms : List (Value × List Sc)) : HP := row 22 1 v ms.length (ms.map (·.1)) * star (ms.map fun p => rS p.1 p.2)
theorem scsInfo : (Try.prog.info? 22).map (fun i => (i.zero, i.size, i.bytes)) = some (some (.slice none 0 0), 1, 24) := by kernel_rfl
theorem Sat.rM_nil {w0 w : World} {R : HP} (S : Sat w0 w R) : Sat w0 w (rM (.slice none 0 0) [] * R) := by
  unfold rM
  simp only [List.map_nil, star_nil, mul_emp]
  exact S.row_nil _ _
theorem rM_append {w0 w : World} {v : Value} {ms : List (Value × List Sc)} {u : Value} {xs : List Sc} {R : HP} (hl : ms.length ≤ 1000) (S : Sat w0 w (rM v ms * (rS u xs * R))) (g c : Nat) (h0 : w.cell? ⟨g, 0, none⟩ = some u) :
    ∃ v' w', (Builtin.append_ #[83, 83] 83 #[v, .slice (some ⟨g, 0, none⟩) 1 c]).run Try.prog w = .ok v' w' ∧ Sat w0 w' (rM v' (ms ++ [(u, xs)]) * R) := by
  obtain ⟨A5, c5, e5, -, -⟩ := Sat.row_C flatS rfl (S.cong (by ac_rfl : _ = rS u xs * (rM v ms * R)))
  unfold rM at S ⊢
  rw [sep_assoc] at S
  obtain ⟨v', w', hr, S'⟩ := S.run_append 83 83 Try.underlying83 scsInfo rfl (by decide) ⟨g, 0, none⟩ 1 c [u] rfl (fun j y hj => by
    match j, hj with
    | 0, hj => simp only [List.getElem?_cons_zero, Option.some.injEq] at hj; subst hj; exact h0
    | j + 1, hj => simp at hj) (by subst e5; simp [Value.oneCell']) (by unfold maxLen; omega) (by omega)
  refine ⟨v', w', hr, S'.cong ?_⟩
  rw [List.length_append, List.map_append, List.map_append, star_append, List.length_cons, List.length_nil]
  simp only [List.map_cons, List.map_nil, star_cons, star_nil, mul_emp]
  ac_rfl
def sA : Value → Option Addr | .slice A _ _ => A | _ => none
def sC : Value → Nat | .slice _ _ c => c | _ => 0
theorem Sat.rM_open {w0 w : World} {v : Value} {ms : List (Value × List Sc)} {R : HP} (S : Sat w0 w (rM v ms * R)) : ∃ A c, v = .slice A ms.length c ∧ ms.length ≤ c := by
  unfold rM at S
  rw [sep_assoc] at S
  obtain ⟨_, h⟩ := S.row_open
  rcases h with ⟨rfl, h0, hx, _⟩ | ⟨g, cap, cur, rfl, hn, hm, hs, ht, S1⟩
  · exact ⟨none, 0, by rw [h0], by omega⟩
  · exact ⟨_, _, rfl, hn⟩
theorem Sat.rM_at {w0 w : World} {A : Option Addr} {m c : Nat} {ms : List (Value × List Sc)} {R : HP} (S : Sat w0 w (rM (.slice A m c) ms * R)) {i : Nat} (h : i < ms.length) :
    ∃ g, A = some ⟨g, 0, none⟩ ∧ w.cell? ⟨g, i, none⟩ = some (.slice (sA ms[i].1) ms[i].2.length (sC ms[i].1)) ∧ ms[i].2.length ≤ sC ms[i].1 ∧ Kd.C k30 w (sA ms[i].1) ms[i].2.length ms[i].2 := by
  unfold rM at S
  rw [sep_assoc] at S
  obtain ⟨g, e1, hc⟩ := S.row_cells i ms[i].1 (by simp [h])
  have S2 := S.p2
  rw [star_at (fun p : Value × List Sc => rS p.1 p.2) h, sep_assoc] at S2
  obtain ⟨B, d, e, hd, hC⟩ := Sat.row_C flatS rfl S2
  refine ⟨g, e1, ?_, ?_, ?_⟩
  · rw [hc, e]; rfl
  · rw [e]; exact hd
  · rw [e]; exact hC
/-- The lists, as printed contracts read them. -/
theorem Sat.rM_C {w0 w : World} {A : Option Addr} {m c : Nat} {ms : List (Value × List Sc)} {R : HP} (hl : ms.length ≤ 1000) (S : Sat w0 w (rM (.slice A m c) ms * R)) :
    Kd.C (Kd.slice 30 k30) w A (ms.map (·.2)).length (ms.map (·.2)) := by
  refine ⟨rfl, by rw [List.length_map]; omega, fun hp => ?_⟩
  rw [List.length_map] at hp
  obtain ⟨g, e1, -⟩ := S.rM_at hp
  refine ⟨_, e1, fun j p hp => ?_⟩
  rw [List.getElem?_map, Option.map_eq_some_iff] at hp
  obtain ⟨q, hq, rfl⟩ := hp
  obtain ⟨hj, rfl⟩ := List.getElem?_eq_some_iff.1 hq
  obtain ⟨g', e2, hc, hd, hC⟩ := S.rM_at hj
  rw [e1] at e2
  injection e2 with e2
  injection e2 with e2
  subst e2
  refine ⟨[.slice (sA ms[j].1) ms[j].2.length (sC ms[j].1)], rfl, ⟨_, _, rfl, hd, hC⟩, fun i u hu => ?_⟩
  match i, hu with
  | 0, hu =>
    simp only [List.getElem?_cons_zero, Option.some.injEq] at hu
    subst hu
    rw [Addr.add_lit]
    simpa [Kd.slice] using hc
  | i + 1, hu => simp at hu
theorem mem_puts {l : List Sc} : ∀ x ∈ putsS l, x ∈ l := by
  have : ∀ (l a : List Sc), ∀ x ∈ l.foldl putS a, x ∈ l ∨ x ∈ a := by
    intro l
    induction l with
    | nil => exact fun a x hx => .inr hx
    | cons y l ih =>
      intro a x hx
      rcases ih _ x hx with h | h
      · exact .inl (List.mem_cons_of_mem _ h)
      · rcases List.mem_cons.1 ((put_perm a y).mem_iff.1 h) with rfl | h
        · exact .inl List.mem_cons_self
        · exact .inr (List.mem_filter.1 h).1
  intro x hx
  rcases this l [] x hx with h | h
  · exact h
  · cases h
theorem joinF_len {all : Bool} {how : Int} {ws : List Int} {L : List (List Sc)} : ∀ (T out r : List Sc), joinF all how ws L T out = some r → r.length ≤ out.length + T.length
  | [], out, r, h => by simp only [joinF] at h; injection h with h; subst h; simp
  | x :: T, out, r, h => by
    cases hf : (findS out x.f0).isSome with
    | true =>
      rw [joinF_has hf] at h
      have := joinF_len T out r h
      rw [List.length_cons]; omega
    | false =>
      cases hi : inJ all ws L x.f0 with
      | false =>
        rw [joinF_out hf hi] at h
        have := joinF_len T out r h
        rw [List.length_cons]; omega
      | true =>
        cases hz : scJ how ws L x.f0 with
        | none => rw [joinF_over hf hi hz] at h; cases h
        | some z =>
          rw [joinF_in hf hi hz] at h
          have := joinF_len T _ r h
          rw [(ins_perm_S _ _).length_eq, List.length_cons] at this
          rw [List.length_cons]; omega
theorem opensInts : Opens Try.prog 82 (Kd.slice 2 (Kd.int .i64)) (fun xs => ∀ x ∈ xs, (Lit.int .i64 x).wf = true) := opens_slice Try.underlying82 (by kernel_rfl) (opens_int Try.underlying2)
theorem opensScss : Opens Try.prog 83 (Kd.slice 22 (Kd.slice 30 k30)) (fun xs => ∀ l ∈ xs, ∀ x ∈ l, x.f0.size ≤ maxLen ∧ (Lit.int .i64 x.f1).wf = true) := opens_slice Try.underlying83 (by kernel_rfl) opensScs
theorem fits_of_wf {z : Int} (h : (Lit.int .i64 z).wf = true) : fitsI z = true := by
  simp [Lit.wf, IntKind.min, IntKind.max, IntKind.signed, IntKind.bits] at h
  exact fitsI_iff.2 ⟨by unfold lo63; omega, by unfold hi63; omega⟩
end Go.Sl
/-! ### LawZsJ -/
namespace Go.Sl
open Go.RowKit Go.Proofs Go.Proofs.YteakblblpiihpaaW.PrintWords Go.Proofs.Yteakblblpiihpaa.PZs
set_option linter.unusedVariables false
set_option linter.unusedSimpArgs false
set_option maxRecDepth 100000

theorem val_field4 (k : Int) (z : Value) (w : World) : (Instr.field 45 (valV k z) 4).run Try.prog w = .ok z w := by kernel_rfl
/-- Lists that were made of the argument's. -/
structure MsOk (L : List (List Sc)) (ms : List (Value × List Sc)) (i : Nat) : Prop where
  len : ms.length = i
  at_ : ms.map (·.2) = (L.take i).map putsS
  sz : ∀ l ∈ L.take i, l.length ≤ 50
theorem ms_lists {L : List (List Sc)} {ms : List (Value × List Sc)} {i : Nat} (h : MsOk L ms i) (hok : ∀ l ∈ L, ∀ x ∈ l, x.f0.size ≤ maxLen ∧ (Lit.int .i64 x.f1).wf = true) :
    ∀ l ∈ ms.map (·.2), ZOk l ∧ l.length ≤ 100 ∧ (∀ x ∈ l, fitsI x.f1 = true ∧ x.f0.size ≤ maxLen) := fun l hl => by
  rw [h.at_] at hl
  obtain ⟨q, hq, rfl⟩ := List.mem_map.1 hl
  have h50 := h.sz q hq
  have hqL := List.mem_of_mem_take hq
  have hp := puts_ok (l := q) (fun x hx => (hok q hqL x hx).1) (by omega) q.length (Nat.le_refl _)
  rw [List.take_length] at hp
  exact ⟨hp.1, by omega, fun x hx => ⟨fits_of_wf (hok q hqL x (mem_puts x hx)).2, (hok q hqL x (mem_puts x hx)).1⟩⟩
theorem MsOk.step {L : List (List Sc)} {ms : List (Value × List Sc)} {i : Nat} (h : MsOk L ms i) (hi : i < L.length) {u : Value} (h50 : L[i].length ≤ 50) : MsOk L (ms ++ [(u, putsS L[i])]) (i + 1) where
  len := by rw [List.length_append, h.len]; rfl
  at_ := by rw [List.map_append, h.at_, ← List.take_append_getElem hi, List.map_append]; rfl
  sz := fun l hl => by
    rw [← List.take_append_getElem hi] at hl
    rcases List.mem_append.1 hl with hl | hl
    · exact h.sz l hl
    · rw [List.mem_singleton] at hl; subst hl; exact h50
theorem two_bool {w0 w : World} {b : Nat} {R : HP} (S : Sat w0 w (pts b (.cells #[.bool false, .bool true] 4 (0, 0)) * R)) (i : Nat) (h : i < 2) : w.cell? ⟨b, i, none⟩ = some (.bool (decide (i = 1))) := by
  obtain ⟨h0, h1, -⟩ := blk2 S.blk
  match i, h with
  | 0, _ => exact h0
  | 1, _ => exact h1
set_option maxHeartbeats 16000000 in
theorem joinsZs {w : World} {how : Int} {A1 A2 : Option Addr} {c1 c2 : Nat} {ws : List Int} {L : List (List Sc)} (hr1 : Kd.C (Kd.int .i64) w A1 ws.length ws) (hc1 : ws.length ≤ c1) (hw : ∀ x ∈ ws, (Lit.int .i64 x).wf = true)
    (hr2 : Kd.C (Kd.slice 30 k30) w A2 L.length L) (hc2 : L.length ≤ c2) (hok : ∀ l ∈ L, ∀ x ∈ l, x.f0.size ≤ maxLen ∧ (Lit.int .i64 x.f1).wf = true) :
    Calls Try.prog 7 #[.int .i64 how, .slice A1 ws.length c1, .slice A2 L.length c2] w fun en w' => en = .returned (.bool true) ∧ Below w.heap.size w w' := by
  have HW := Lib.hid (fun x hx => fits_of_wf (hw x hx))
  have HR1 := Lib.hid hr1
  have HR2 := Lib.hid hr2
  have HC1 := Lib.hid hc1
  have HOK := Lib.hid hok
  have hm1 : L.length ≤ 9223372036854775807 := hr2.2.1
  have HS0 : Hid (Sat w w (old w)) := Lib.hid (Sat.start w)
  clear hw hr1 hr2 hc1 hc2 hok
  by_cases hfar : 10 < L.length ∨ 20 < ws.length
  · have hfin : Calls Try.prog 8 #[] w fun en w' => en = .returned (.bool true) ∧ Sat w w' (old w) := aliveZs HS0.out
    by_cases h1 : 10 < L.length
    · have hd : decide ((10 : Int) < (L.length : Int)) = true := by simp; omega
      clear h1 hfar
      go_enter Try.func7, Try.ntmps7
      go_wp2_with fail
      refine hfin.mono ?_
      rintro en w5 ⟨rfl, S5⟩
      have HS5 := Lib.hid S5.old1
      clear S5 hfin
      go_wp2_with fail
      go_ret
      exact ⟨rfl, HS5.out⟩
    · have h2 : 20 < ws.length := by omega
      have hd : decide ((10 : Int) < (L.length : Int)) = false := by simp; omega
      have hd2 : decide ((20 : Int) < (ws.length : Int)) = true := by simp; omega
      clear h1 h2 hfar
      go_enter Try.func7, Try.ntmps7
      go_wp2_with fail
      refine hfin.mono ?_
      rintro en w5 ⟨rfl, S5⟩
      have HS5 := Lib.hid S5.old1
      clear S5 hfin
      go_wp2_with fail
      go_ret
      exact ⟨rfl, HS5.out⟩
  have hd : decide ((10 : Int) < (L.length : Int)) = false := by simp; omega
  have hd2 : decide ((20 : Int) < (ws.length : Int)) = false := by simp; omega
  have HL10 : Hid (L.length ≤ 10) := Lib.hid (by omega)
  have HS : Hid (Sat w w (rM (.slice none 0 0) [] * old w)) := Lib.hid (HS0.out.rM_nil)
  clear hfar hm1 HS0
  go_enter Try.func7, Try.ntmps7
  go_wp2_with fail
  go_loopw [7, 27] (fun v7 v27 wr => ∃ (i : Nat) (ms : List (Value × List Sc)), v27 = .int .i64 i ∧ i ≤ L.length ∧ Hid (MsOk L ms i) ∧ Hid (Sat w wr (rM v7 ms * old w))) (fun _ v27 _ => L.length - (RowKit.intOf v27).toNat)
  case atStart => exact ⟨0, [], rfl, by omega, Lib.hid ⟨rfl, by simp, by simp⟩, HS⟩
  case round =>
    clear HS
    obtain ⟨i, ms, rfl, hi, HM, HSi⟩ := hrel
    by_cases hlt : i < L.length
    · have hwi := wrap_upZ hlt (show L.length ≤ 9223372036854775807 by have := HL10.out; omega)
      have hbel := HSi.out.drop1.old1
      obtain ⟨ad, B, d, e1, x0, hdl, hB⟩ := at_L3 HR2.out (i : Int) (by omega) (by omega)
      have hrd : rd_L3 L (i : Int) = L[i] := by unfold rd_L3; simp [List.getD_eq_getElem?_getD, hlt]
      subst e1
      rw [hrd, Int.toNat_natCast] at x0
      rw [hrd] at hdl hB
      obtain ⟨li, hli⟩ : ∃ li, li = L[i] := ⟨_, rfl⟩
      rw [← hli] at x0 hB
      have x0 := (hbel.cell (World.block_lt_of_cell? w _ x0)).trans x0
      have HB : Hid (∀ w', Below w.heap.size w w' → Kd.C k30 w' B li.length li) := Lib.hid (fun w' h => Kd.C_below hB h)
      have HLI := Lib.hid hli
      have HMI : Hid (li ∈ L) := Lib.hid (by rw [hli]; exact List.getElem_mem hlt)
      clear hbel hdl hB hrd hli
      by_cases h50 : 50 < li.length
      · have hd5 : decide ((50 : Int) < (li.length : Int)) = true := by simp; omega
        clear h50
        go_wp2_with fail
        refine (aliveZs HSi.out).mono ?_
        rintro en w5 ⟨rfl, S5⟩
        have HS5 := Lib.hid S5.drop1.old1
        clear S5 HSi x0
        go_wp2_with fail
        go_ret
        exact ⟨rfl, HS5.out⟩
      · have hd5 : decide ((50 : Int) < (li.length : Int)) = false := by simp; omega
        have H50 : Hid (li.length ≤ 50) := Lib.hid (by omega)
        clear h50
        have HCALL := Lib.hid (rZSet (c := d) (fun Z w' S => HB.out w' S.drop1.drop1.old1) (fun x hx => (HOK.out li HMI.out x hx).1) (by have := H50.out; omega) HSi.out)
        have HMS := Lib.hid (fun u => HM.out.step (u := u) hlt (by rw [← HLI.out]; exact H50.out))
        rw [← HLI.out] at HMS
        clear HSi
        go_wp2_with fail
        refine HCALL.out.mono ?_
        rintro en w4 ⟨kk, z4, rfl, S4⟩
        obtain ⟨A4, c4, rfl, -, -⟩ := Sat.row_C flatS rfl S4
        have hvf := val_field4 kk (.slice A4 (putsS li).length c4) w4
        have T := S4.alloc (.cells #[.slice A4 (putsS li).length c4] 22)
        obtain ⟨q0, -⟩ := blk1 T.blk
        obtain ⟨v', w', hr, S5⟩ := rM_append (v := u7) (ms := ms) (by have := HM.out.len; have := HL10.out; omega) (T.cong (by ac_rfl : _ = rM u7 ms * (rS (.slice A4 (putsS li).length c4) (putsS li) * (pts w4.heap.size (.cells #[.slice A4 (putsS li).length c4] 22 (0, 0)) * old w)))) w4.heap.size 1 q0
        have HS5 := Lib.hid S5.p2.drop1
        clear S4 T q0 S5 HCALL
        go_wp2_with (at_builtin; refine wpList_append_eq rfl _ _ _ _ rfl rfl rfl hr ?_)
        clear hr hvf
        go_roundw
        case rel => exact ⟨i + 1, _, by rw [hwi], by omega, HMS.out _, HS5⟩
        case measure => rw [hwi]; simp only [RowKit.intOf, Int.toNat_natCast]; omega
    · have hie : i = L.length := by omega
      subst hie
      obtain ⟨M, hM⟩ : ∃ M, M = ms.map (·.2) := ⟨_, rfl⟩
      have hml : ms.length = M.length := by rw [hM, List.length_map]
      have HMM : Hid (∀ l ∈ M, ZOk l ∧ l.length ≤ 100 ∧ (∀ x ∈ l, fitsI x.f1 = true ∧ x.f0.size ≤ maxLen)) := Lib.hid (by rw [hM]; exact ms_lists HM.out HOK.out)
      have HML : Hid (M.length ≤ 10) := Lib.hid (by rw [← hml, HM.out.len]; exact HL10.out)
      obtain ⟨A7, c7, hv7, hc7⟩ := HSi.out.rM_open
      subst hv7
      rw [hml] at HSi ⊢
      have hms : ms.length ≤ 1000 := by have := HML.out; omega
      have H3R : Hid (∀ Z w', Sat w w' (Z * (rM (.slice A7 M.length c7) ms * old w)) → Kd.C (Kd.slice 30 k30) w' A7 M.length M) := Lib.hid (fun Z w' S => by rw [hM]; exact S.drop1.rM_C hms)
      have H3J : Hid (∀ Z w', Sat w w' (Z * (rM (.slice A7 M.length c7) ms * old w)) → ∀ i (h : i < M.length), ∃ ad : Addr, A7 = some ad ∧ w'.cell? (ad.add i) = some (.slice (sA (ms.getD i (.slice none 0 0, [])).1) M[i].length (sC (ms.getD i (.slice none 0 0, [])).1)) ∧ Kd.C k30 w' (sA (ms.getD i (.slice none 0 0, [])).1) M[i].length M[i]) := Lib.hid (fun Z w' S i h => by
        have hi : i < ms.length := by omega
        obtain ⟨g, e1, hc, hd, hC⟩ := S.drop1.rM_at hi
        have eM : M[i] = ms[i].2 := by subst hM; simp
        have eD : ms.getD i (.slice none 0 0, []) = ms[i] := by simp [List.getD_eq_getElem?_getD, hi]
        rw [eM, eD]
        exact ⟨_, e1, by rw [Addr.add_lit, Nat.zero_add]; exact hc, hC⟩)
      have H2 : Hid (∀ Z w', Sat w w' (Z * (rM (.slice A7 M.length c7) ms * old w)) → Kd.C (Kd.int .i64) w' A1 ws.length ws) := Lib.hid (fun Z w' S => Kd.C_below HR1.out S.drop1.drop1.old1)
      generalize (fun i => sA (ms.getD i (.slice none 0 0, [])).1) = Bf at *
      have HRC : Hid (M.length ≤ c7) := Lib.hid (by rw [← hml]; exact hc7)
      clear hM hml hms HM hc7 hi hlt
      obtain ⟨bb, hbb⟩ : ∃ bb, bb = wr.heap.size := ⟨_, rfl⟩
      have SA := HSi.out.alloc (.cells #[.bool false, .bool true] 4)
      rw [← hbb] at SA
      have HSA := Lib.hid SA
      have HBB := Lib.hid hbb
      clear SA hbb HSi
      go_upto_region 12 with (fail)
      rw [← HBB.out]
      refine gen_w HSA.out ?_
      clear HSA HBB
      intro w5 SP
      have HP := Lib.hid SP
      clear SP
      go_loopw [44] (fun v44 wr => ∃ i : Nat, v44 = .int .i64 i ∧ i ≤ 2 ∧ Hid (Sat w wr (pts bb (.cells #[.bool false, .bool true] 4 (0, 0)) * (rM (.slice A7 M.length c7) ms * old w)))) (fun v44 _ => 2 - (RowKit.intOf v44).toNat)
      case atStart => exact ⟨0, rfl, by omega, HP⟩
      case round =>
        clear HP
        obtain ⟨i, rfl, hi, HSi⟩ := hrel
        by_cases hlt : i < 2
        · have hwi := wrap_upZ hlt (by decide)
          have x0 := two_bool HSi.out i hlt
          have hdi : decide ((i : Int) < 2) = true := by simp; omega
          generalize decide (i = 1) = all at x0
          obtain ⟨J, hJ⟩ : ∃ J, J = joinF all how ws M M.flatten [] := ⟨_, rfl⟩
          obtain ⟨er, her⟩ : ∃ er : Int, er = if J.isSome then 0 else 13 := ⟨_, rfl⟩
          have HJL : Hid ((J.getD []).length ≤ 1000000) := Lib.hid (by
            cases hj : J with
            | none => simp
            | some r =>
              rw [hj] at hJ
              have h1 := joinF_len _ _ _ hJ.symm
              have h2 := flatten_le (fun l hl => (HMM.out l hl).2.1)
              have := HML.out
              simp only [Option.getD_some, List.length_nil] at h1 ⊢
              omega)
          have hc1 := zJoin (all := all) (how := how) (c2 := c1) (c3 := c7) (R := pts bb (.cells #[.bool false, .bool true] 4 (0, 0)) * (rM (.slice A7 M.length c7) ms * old w)) (by have := HML.out; omega) (fun l hl => (HMM.out l hl).2.1) (fun l hl => (HMM.out l hl).2.2) (fun l hl => (HMM.out l hl).1.ks) HW.out (fun Z w' S => H2.out (Z * pts bb (.cells #[.bool false, .bool true] 4 (0, 0))) w' (S.cong (by ac_rfl))) HC1.out (fun Z w' S => H3J.out (Z * pts bb (.cells #[.bool false, .bool true] 4 (0, 0))) w' (S.cong (by ac_rfl))) HSi.out
          rw [← hJ, ← her] at hc1
          have HC := Lib.hid hc1
          have HJJ := Lib.hid hJ
          have HER := Lib.hid her
          clear hc1 hJ her HSi
          go_wp2_with fail
          refine HC.out.mono ?_
          rintro en w6 ⟨va, rfl, S6⟩
          have hc2 := rJoin (all := all) (how := how) (c2 := c1) (c3 := c7) (R := rS va (J.getD []) * (pts bb (.cells #[.bool false, .bool true] 4 (0, 0)) * (rM (.slice A7 M.length c7) ms * old w))) (by have := HML.out; omega) (fun l hl => (HMM.out l hl).2.1) (fun l hl => (HMM.out l hl).2.2) HW.out (fun Z w' S => H2.out (Z * (rS va (J.getD []) * pts bb (.cells #[.bool false, .bool true] 4 (0, 0)))) w' (S.cong (by ac_rfl))) HC1.out (fun Z w' S => H3R.out (Z * (rS va (J.getD []) * pts bb (.cells #[.bool false, .bool true] 4 (0, 0)))) w' (S.cong (by ac_rfl))) HRC.out S6
          rw [← HJJ.out, ← HER.out] at hc2
          have HC2 := Lib.hid hc2
          clear hc2 S6 HC x0
          go_wp2_with fail
          refine HC2.out.mono ?_
          rintro en w7 ⟨vb, rfl, S7⟩
          have HS7 := Lib.hid S7
          clear S7 HC2
          go_wp2_with fail
          refine (zSame HJL.out HS7.out.p2).mono ?_
          rintro en w8 ⟨rfl, S8⟩
          have HS8 := Lib.hid S8.drop1.drop1
          have hne : (er != er) = false := by simp
          clear S8 HS7
          go_wp2_with fail
          go_roundw
          case rel => exact ⟨i + 1, by simp, by omega, HS8⟩
          case measure => simp [RowKit.intOf]; omega
        · have hi2 : i = 2 := by omega
          subst hi2
          go_wp2_with fail
          refine (aliveZs HSi.out).mono ?_
          rintro en w8 ⟨rfl, S8⟩
          have HS8 := Lib.hid S8.drop1.drop1.old1
          clear S8 HSi
          go_wp2_with fail
          go_ret
          exact ⟨rfl, HS8.out⟩
end Go.Sl
/-! ### LawZsJW -/
namespace Go.Sl
open Go.RowKit Go.Proofs Go.Proofs.YteakblblpiihpaaW.PrintWords Go.Proofs.Yteakblblpiihpaa.PZs
theorem joinsZsWalk {w : World} (how : Int) (_ : (Lit.int .i64 how).wf = true) {A1 : Option Addr} {c1 : Nat} {ws : List Int} (hr1 : Kd.C (Kd.int .i64) w A1 ws.length ws) (hc1 : ws.length ≤ c1) (hw : ∀ x ∈ ws, (Lit.int .i64 x).wf = true)
    {A2 : Option Addr} {c2 : Nat} {L : List (List Sc)} (hr2 : Kd.C (Kd.slice 30 k30) w A2 L.length L) (hc2 : L.length ≤ c2) (hok : ∀ l ∈ L, ∀ x ∈ l, x.f0.size ≤ maxLen ∧ (Lit.int .i64 x.f1).wf = true) :
    Calls Try.prog 7 #[.int .i64 how, .slice A1 ws.length c1, .slice A2 L.length c2] w fun en w' => en = .returned (.bool true) ∧ Below w.heap.size w w' :=
  joinsZs hr1 hc1 hw hr2 hc2 hok
end Go.Sl
/-! ### RowZsetJoins -/
namespace Go.Proofs.Yteakblblpiihpaa.zsetJoins
open Go.ChangeShapes Go.WideShapes Go.ChangeAt Go.RowKit Go.Sl Go.Proofs.YteakblblpiihpaaW.PrintWords
open Go.ChangeMaps (open_string shut_string)
set_option linter.unusedVariables false
theorem own : ownKnob Try.prog.godebug = none := by kernel_rfl
theorem laidOut : laidOutB Try.prog = true := by kernel_rfl
set_option maxRecDepth 100000 in
theorem lifted (os : Os) (started : os.Started) (H : Type) (enc : TypeId × Value → H) :
    ReturnsInHanded {} Try.checked os 7 .any (Rows.zsetJoinsSpec.pre6 enc Try.prog Try.f7 Rows.zsetJoinsRow.domain false) (Rows.zsetJoinsSpec.post enc Try.prog Try.f7 false true false false) := by
  refine returnsInHanded_of_change_sized (C := Try.checked) own started (by kernel_rfl) Try.func7
    (ChangeSpec.witness6 (enc := enc) (C := Try.checked) false ⟨#[], #[.int .i64 0, .slice none 0 0, .slice none 0 0], []⟩ 8 (by kernel_rfl) (by kernel_rfl) (by kernel_rfl) (by kernel_rfl)) ?_
  intro W base args ds gs before hval0 hW hcnd hsz0 _
  have hval : ∀ (j : Nat) t v, Try.f7.params[j]? = some t → args[j]? = some v → Value.okWide Try.prog W .any base t v := hval0
  have hW' := hW
  obtain ⟨p, q, hA0, hV, rfl, hfz, hnd⟩ := hW
  have hA : DataW.TrodAll enc Try.prog W 0 (fun _ => true) true Try.f7.params.toList args.toList ds p := hA0
  rw [Try.params7] at hA hval
  obtain ⟨v0, vs0, d0, ds0, p0, q0, hargs, rfl, rfl, h0, r0⟩ := trodAll_cons hA
  obtain ⟨v1, vs1, d1, ds1, p1, q1, rfl, rfl, rfl, h1, r1⟩ := trodAll_cons r0
  obtain ⟨v2, vs2, d2, ds2, p2, q2, rfl, rfl, rfl, h2, r2⟩ := trodAll_cons r1
  obtain ⟨rfl, rfl, rfl⟩ := trodAll_nil r2
  obtain rfl : args = #[v0, v1, v2] := by cases args; simp_all
  obtain ⟨rfl, rfl⟩ := trodVars_none hV
  obtain ⟨a0, rfl, rfl, rfl, w0⟩ := open_int Try.underlying3 (hval 0 3 v0 rfl rfl) h0
  obtain ⟨a1, len1, cap1, rfl⟩ := okWide_slice Try.underlying82 (hval 1 82 v1 rfl rfl)
  have k1 := h1
  have lt1 : ∀ x ∈ p1, x.block < W.heap.size := by obtain ⟨m, hm⟩ := k1; exact DataW.trod_lt m _ _ _ hm
  obtain ⟨l1, rfl, hc1, hC1, hk1⟩ := (opensInts).arg h1
  obtain ⟨a2, len2, cap2, rfl⟩ := okWide_slice Try.underlying83 (hval 2 83 v2 rfl rfl)
  have k2 := h2
  have lt2 : ∀ x ∈ p2, x.block < W.heap.size := by obtain ⟨m, hm⟩ := k2; exact DataW.trod_lt m _ _ _ hm
  obtain ⟨l2, rfl, hc2, hC2, hk2⟩ := (opensScss).arg h2
  clear hA0 hval0 hsz0
  refine (Go.Sl.joinsZsWalk a0 w0 hC1 hc1 hk1 hC2 hc2 hk2).mono fun e W' ⟨he, bel⟩ => ?_
  subst he
  exact ⟨_, rfl, _, _, _, [], _, [], hW', trodAll_mk1 (shut_bool Try.underlying4 _), (trodAll_cons_mk (shut_int Try.underlying3 w0) (trodAll_cons_mk (Below.trod laidOut (by kernel_rfl) (of_decide_eq_true (by kernel_rfl)) k1 bel lt1) (trodAll_cons_mk (Below.trod laidOut (by kernel_rfl) (of_decide_eq_true (by kernel_rfl)) k2 bel lt2) trodAll_mk0))), rfl, bel.frame _, fun h => by cases h⟩
theorem over : Rows.zsetJoinsRow.holds Try.pinned (OpenSpec.ofChange Rows.zsetJoinsSpec) :=
  OpenClaim.holds_of_wide 7 Try.f7 rfl rfl rfl rfl rfl rfl rfl ⟨rfl, rfl, rfl, rfl, rfl⟩ rfl rfl rfl rfl rfl (by kernel_rfl) Try.func7 (by kernel_rfl)
    (of_decide_eq_true (by kernel_rfl)) (by unfold Func.isWrapper; first | (rw [if_pos (by decide +kernel)]; kernel_rfl) | (rw [if_neg (by decide +kernel)]; exact ⟨rfl, rfl⟩))
    (fun os started H enc _ => lifted os started H enc)
end Go.Proofs.Yteakblblpiihpaa.zsetJoins
namespace Go.Proofs.Yteakblblpiihpaa
theorem zsetJoins_holds : Rows.ZsetJoinsSaid := zsetJoins.over
#print axioms zsetJoins_holds
end Go.Proofs.Yteakblblpiihpaa
