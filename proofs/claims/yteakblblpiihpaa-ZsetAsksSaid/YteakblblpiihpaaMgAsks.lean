/-
  'mewslaw24.ZsetAsks' answers true at every input: what is asked of any sorted set, by ranks and by scores, from either end, is the document's; what a range has is counted. No condition.
  'mewslaw24.ZsetAsks': the walk, for the row.
  'mewslaw24.ZsetAsks': the walk.
  Layer 24's questions: arguments that are lists of them; the contracts by which they are asked.
-/
import Derived.Test.YteakblblpiihpaaMgF
import Derived.Test.YteakblblpiihpaaMgE
import Derived.Deep.RegionHeld3
import Derived.Test.YteakblblpiihpaaRows
import Derived.WalkKit
import Derived.ProofKit
import Derived.OpenShut
import Derived.ShutString
import Derived.ChangeOld
import Derived.Below
import Derived.SizedLaws
import Derived.Carry
/-! ### Ask -/
namespace Go.Sl
open Go.RowKit Go.Proofs Go.Proofs.YteakblblpiihpaaW.PrintWords Go.Proofs.Yteakblblpiihpaa.PZs Go.Sl.DI64
set_option linter.unusedVariables false
set_option linter.unusedSimpArgs false
set_option maxRecDepth 100000

structure AskT where
  li : Int
  ls : Int
  lo : Bool
  hi : Int
  hs : Int
  ho : Bool
  fr : Int
  ti : Int
  back : Bool
  sk : Int
  ct : Int
instance : Inhabited AskT := ⟨⟨0, 0, false, 0, 0, false, 0, 0, false, 0, 0⟩⟩
abbrev bndK : Kd (Int × Int × Bool) := Kd.pair (Kd.int .i64) (Kd.pair (Kd.int .i64) Kd.bool)
abbrev askP : Kd ((Int × Int × Bool) × (Int × Int × Bool) × Int × Int × Bool × Int × Int) :=
  Kd.pair bndK (Kd.pair bndK (Kd.pair (Kd.int .i64) (Kd.pair (Kd.int .i64) (Kd.pair Kd.bool (Kd.pair (Kd.int .i64) (Kd.int .i64))))))
def askTup (x : AskT) : (Int × Int × Bool) × (Int × Int × Bool) × Int × Int × Bool × Int × Int := ((x.li, x.ls, x.lo), (x.hi, x.hs, x.ho), x.fr, x.ti, x.back, x.sk, x.ct)
abbrev askK : Kd AskT := Kd.iso askP askTup
def encA (a : AskT) : List Value := [.int .i64 a.li, .int .i64 a.ls, .bool a.lo, .int .i64 a.hi, .int .i64 a.hs, .bool a.ho, .int .i64 a.fr, .int .i64 a.ti, .bool a.back, .int .i64 a.sk, .int .i64 a.ct]
abbrev askO (a : AskT) : Obj := .cells #[.int .i64 a.li, .int .i64 a.ls, .bool a.lo, .int .i64 a.hi, .int .i64 a.hs, .bool a.ho, .int .i64 a.fr, .int .i64 a.ti, .bool a.back, .int .i64 a.sk, .int .i64 a.ct] 50 (0, 0)
theorem askK_open {w : World} {a : AskT} {cs : List Value} (h : askK.K w a cs) : cs = encA a := by
  obtain ⟨c1, c2, rfl, ⟨d1, d2, rfl, h1, e1, e2, rfl, h2, h3⟩, f1, f2, rfl, ⟨g1, g2, rfl, h4, i1, i2, rfl, h5, h6⟩, j1, j2, rfl, h7, k1, k2, rfl, h8, l1, l2, rfl, h9, m1, m2, rfl, h10, h11⟩ := h
  rw [show d1 = [.int .i64 a.li] from h1, show e1 = [.int .i64 a.ls] from h2, show e2 = [.bool a.lo] from h3, show g1 = [.int .i64 a.hi] from h4, show i1 = [.int .i64 a.hs] from h5, show i2 = [.bool a.ho] from h6, show j1 = [.int .i64 a.fr] from h7, show k1 = [.int .i64 a.ti] from h8, show l1 = [.bool a.back] from h9, show m1 = [.int .i64 a.sk] from h10, show m2 = [.int .i64 a.ct] from h11]
  rfl
abbrev okI (n : Int) : Prop := (Lit.int .i64 n).wf = true
theorem opensBnd : Opens Try.prog 48 bndK (fun _ => True) := by
  have h := opens_struct (P := Try.prog) (t := 48) Try.underlying48 (by kernel_rfl) (opensFs_cons (opens_int Try.underlying3) rfl (by kernel_rfl) (opensFs_cons (off := 1) (opens_int Try.underlying2) rfl (by kernel_rfl) (opensFs_one (off := 2) (opens_bool Try.underlying4) rfl (by kernel_rfl)) rfl rfl) rfl rfl)
  exact h.weaken (fun _ _ => trivial)
theorem opensAsk : Opens Try.prog 50 askK (fun x => okI x.fr ∧ okI x.ti ∧ okI x.sk ∧ okI x.ct) := by
  have h := opens_struct (P := Try.prog) (t := 50) Try.underlying50 (by kernel_rfl) (opensFs_cons opensBnd rfl (by kernel_rfl) (opensFs_cons (off := 3) opensBnd rfl (by kernel_rfl) (opensFs_cons (off := 6) (opens_int Try.underlying2) rfl (by kernel_rfl) (opensFs_cons (off := 7) (opens_int Try.underlying2) rfl (by kernel_rfl) (opensFs_cons (off := 8) (opens_bool Try.underlying4) rfl (by kernel_rfl) (opensFs_cons (off := 9) (opens_int Try.underlying2) rfl (by kernel_rfl) (opensFs_one (off := 10) (opens_int Try.underlying2) rfl (by kernel_rfl)) rfl rfl) rfl rfl) rfl rfl) rfl rfl) rfl rfl) rfl rfl)
  exact (h.iso askTup (fun p => ⟨p.1.1, p.1.2.1, p.1.2.2, p.2.1.1, p.2.1.2.1, p.2.1.2.2, p.2.2.1, p.2.2.2.1, p.2.2.2.2.1, p.2.2.2.2.2.1, p.2.2.2.2.2.2⟩) (fun _ => rfl)).weaken (fun a h => ⟨h.2.2.1, h.2.2.2.1, h.2.2.2.2.2.1, h.2.2.2.2.2.2⟩)
theorem opensAsks : Opens Try.prog 40 (Kd.slice 50 askK) (fun xs => ∀ x ∈ xs, okI x.fr ∧ okI x.ti ∧ okI x.sk ∧ okI x.ct) := opens_slice Try.underlying40 (by kernel_rfl) opensAsk
/-- An argument's element. -/
theorem argA {w wr : World} {A : Option Addr} {l : List AskT} (hr : Kd.C askK w A l.length l) (hb : Below w.heap.size w wr) {i : Nat} (h : i < l.length) :
    ∃ ad : Addr, A = some ad ∧ wr.cell? (ad.add (i * 11)) = some (.int .i64 l[i].li) ∧ ∀ j u, 0 < j → (encA l[i])[j]? = some u → wr.cell? ⟨(ad.add (i * 11)).block, (ad.add (i * 11)).off + j, none⟩ = some u := by
  obtain ⟨ad, c, e, _, hK, hc0⟩ := Kd.C_get hr default (i : Int) (by omega) (by omega)
  have e1 := askK_open hK
  have e2 : l.getD ((i : Int).toNat) default = l[i] := by simp [List.getD_eq_getElem?_getD, h]
  rw [e2] at e1
  subst e1
  have hc : ∀ j u, (encA l[i])[j]? = some u → w.cell? (ad.add (i * 11 + j)) = some u := hc0
  refine ⟨ad, e, ?_, fun j u hj hu => ?_⟩
  · have := hc 0 _ rfl
    exact (hb.cell (World.block_lt_of_cell? w _ this)).trans this
  · have := hc j u hu
    rw [← add_field _ _ j hj]
    exact (hb.cell (World.block_lt_of_cell? w _ this)).trans this
theorem cells11 {w0 w : World} {ab : Nat} {a : AskT} {R : HP} (S : Sat w0 w (pts ab (askO a) * R)) :
    w.cell? ⟨ab, 0, none⟩ = some (.int .i64 a.li) ∧ w.cell? ⟨ab, 1, none⟩ = some (.int .i64 a.ls) ∧ w.cell? ⟨ab, 2, none⟩ = some (.bool a.lo) ∧ w.cell? ⟨ab, 3, none⟩ = some (.int .i64 a.hi) ∧ w.cell? ⟨ab, 4, none⟩ = some (.int .i64 a.hs) ∧ w.cell? ⟨ab, 5, none⟩ = some (.bool a.ho) ∧ w.cell? ⟨ab, 6, none⟩ = some (.int .i64 a.fr) ∧ w.cell? ⟨ab, 7, none⟩ = some (.int .i64 a.ti) ∧ w.cell? ⟨ab, 8, none⟩ = some (.bool a.back) ∧ w.cell? ⟨ab, 9, none⟩ = some (.int .i64 a.sk) ∧ w.cell? ⟨ab, 10, none⟩ = some (.int .i64 a.ct) :=
  ⟨cell_of S.blk 0 rfl, cell_of S.blk 1 rfl, cell_of S.blk 2 rfl, cell_of S.blk 3 rfl, cell_of S.blk 4 rfl, cell_of S.blk 5 rfl, cell_of S.blk 6 rfl, cell_of S.blk 7 rfl, cell_of S.blk 8 rfl, cell_of S.blk 9 rfl, cell_of S.blk 10 rfl⟩
theorem okI_lo {n : Int} (h : okI n) : -9223372036854775808 ≤ n ∧ n ≤ 9223372036854775807 := by
  simp [okI, Lit.wf, IntKind.min, IntKind.max, IntKind.signed, IntKind.bits] at h
  omega
/-! ### the calls of a question, over what is held meanwhile -/
abbrev rgF (r : List Sc) (a : AskT) : List Sc := rangeR r a.li a.ls a.lo a.hi a.hs a.ho false 0 (-1)
abbrev rgB (r : List Sc) (a : AskT) : List Sc := rangeR r a.li a.ls a.lo a.hi a.hs a.ho true 0 (-1)
abbrev heldA (ab : Nat) (a : AskT) (v13 v14 v10 : Value) (s : Nat) (r : List Sc) (R : HP) : HP :=
  pts ab (askO a) * (rS v13 (rgF r a) * (rS v14 (rgB r a) * (rS v10 r * (zs s r * R))))
section
variable {w0 w : World} {ab s : Nat} {a : AskT} {v13 v14 v10 : Value} {r : List Sc} {X R : HP}
theorem held_s : X * heldA ab a v13 v14 v10 s r R = zs s r * (X * (pts ab (askO a) * (rS v13 (rgF r a) * (rS v14 (rgB r a) * (rS v10 r * R))))) := by unfold heldA; ac_rfl
theorem held_r : X * heldA ab a v13 v14 v10 s r R = rS v10 r * (X * (pts ab (askO a) * (rS v13 (rgF r a) * (rS v14 (rgB r a) * (zs s r * R))))) := by unfold heldA; ac_rfl
theorem held_c : X * heldA ab a v13 v14 v10 s r R = pts ab (askO a) * (X * (rS v13 (rgF r a) * (rS v14 (rgB r a) * (rS v10 r * (zs s r * R))))) := by unfold heldA; ac_rfl
theorem held_f : X * heldA ab a v13 v14 v10 s r R = rS v13 (rgF r a) * (X * (pts ab (askO a) * (rS v14 (rgB r a) * (rS v10 r * (zs s r * R))))) := by unfold heldA; ac_rfl
theorem held_b : X * heldA ab a v13 v14 v10 s r R = rS v14 (rgB r a) * (X * (pts ab (askO a) * (rS v13 (rgF r a) * (rS v10 r * (zs s r * R))))) := by unfold heldA; ac_rfl
theorem Sat.held_ok (S : Sat w0 w (X * heldA ab a v13 v14 v10 s r R)) : ZOk r := (S.cong held_s).zs_ok
theorem qSpan (h1 : okI a.fr) (h2 : okI a.ti) (S : Sat w0 w (X * heldA ab a v13 v14 v10 s r R)) :
    Calls Try.prog 19 #[pt s, .int .i64 a.fr, .int .i64 a.ti, .bool a.back] w fun en w' => ∃ u, en = .returned u ∧ Sat w0 w' (rS u (spanR r a.fr a.ti a.back) * (X * heldA ab a v13 v14 v10 s r R)) := by
  refine (zsSpan (okI_lo h1).1 (okI_lo h1).2 (okI_lo h2).1 (okI_lo h2).2 (S.cong held_s)).mono ?_
  rintro en w' ⟨u, rfl, S2⟩
  rw [span_eq, ← held_s] at S2
  exact ⟨u, rfl, S2⟩
theorem qrSpan (S : Sat w0 w (X * heldA ab a v13 v14 v10 s r R)) :
    Calls Try.prog 20 #[v10, .int .i64 a.fr, .int .i64 a.ti, .bool a.back] w fun en w' => ∃ u, en = .returned u ∧ Sat w0 w' (rS u (spanR r a.fr a.ti a.back) * (X * heldA ab a v13 v14 v10 s r R)) := by
  refine (rSpan S.held_ok.big (S.cong held_r)).mono ?_
  rintro en w' ⟨u, rfl, S2⟩
  rw [← held_r] at S2
  exact ⟨u, rfl, S2⟩
theorem qRange {back : Bool} {sk ct : Int} (h1 : okI sk) (h2 : okI ct) (S : Sat w0 w (X * heldA ab a v13 v14 v10 s r R)) :
    Calls Try.prog 17 #[pt s, bndV a.li a.ls a.lo, bndV a.hi a.hs a.ho, .bool back, .int .i64 sk, .int .i64 ct] w fun en w' => ∃ u, en = .returned u ∧ Sat w0 w' (rS u (rangeR r a.li a.ls a.lo a.hi a.hs a.ho back sk ct) * (X * heldA ab a v13 v14 v10 s r R)) := by
  refine (zsRange (okI_lo h1).2 (okI_lo h2).2 (S.cong held_s)).mono ?_
  rintro en w' ⟨u, rfl, S2⟩
  rw [range_eq S.held_ok, ← held_s] at S2
  exact ⟨u, rfl, S2⟩
theorem qrRange {back : Bool} {sk ct : Int} (S : Sat w0 w (X * heldA ab a v13 v14 v10 s r R)) :
    Calls Try.prog 21 #[v10, bndV a.li a.ls a.lo, bndV a.hi a.hs a.ho, .bool back, .int .i64 sk, .int .i64 ct] w fun en w' => ∃ u, en = .returned u ∧ Sat w0 w' (rS u (rangeR r a.li a.ls a.lo a.hi a.hs a.ho back sk ct) * (X * heldA ab a v13 v14 v10 s r R)) := by
  refine (rRange S.held_ok.big (S.cong held_r)).mono ?_
  rintro en w' ⟨u, rfl, S2⟩
  rw [← held_r] at S2
  exact ⟨u, rfl, S2⟩
theorem qCount (S : Sat w0 w (X * heldA ab a v13 v14 v10 s r R)) :
    Calls Try.prog 22 #[pt s, bndV a.li a.ls a.lo, bndV a.hi a.hs a.ho] w fun en w' => en = .returned (.int .i64 (rgF r a).length) ∧ Sat w0 w' (X * heldA ab a v13 v14 v10 s r R) := by
  refine (zsCount (S.cong held_s)).mono ?_
  rintro en w' ⟨rfl, S2⟩
  rw [← held_s] at S2
  exact ⟨by rw [← count_eq S.held_ok], S2⟩
theorem spanR_le (l : List Sc) (fr ti : Int) (back : Bool) : (spanR l fr ti back).length ≤ l.length := selA_le _ _ _
theorem rangeR_le (l : List Sc) (li ls : Int) (lo : Bool) (hi hs : Int) (ho : Bool) (back : Bool) (sk ct : Int) : (rangeR l li ls lo hi hs ho back sk ct).length ≤ l.length := by
  unfold rangeR
  split
  · simp
  · refine Nat.le_trans (outC_le _ _ _) (Nat.le_trans (List.length_filter_le _ _) ?_)
    rw [wayS_length]
    exact Nat.le_refl _
/-- 'Z.Same', of two rows that are one, which then go. -/
theorem qSame {u u2 : Value} {m : List Sc} {Y : HP} (hb : m.length ≤ 1000000) (S : Sat w0 w (rS u2 m * (rS u m * Y))) :
    Calls Try.prog 18 #[u, u2] w fun en w' => en = .returned (.bool true) ∧ Sat w0 w' Y := by
  refine (zSame hb S.p2).mono ?_
  rintro en w' ⟨rfl, S2⟩
  exact ⟨rfl, S2.drop1.drop1⟩
theorem qSameF {u : Value} (S : Sat w0 w (rS u (rgF r a) * (X * heldA ab a v13 v14 v10 s r R))) :
    Calls Try.prog 18 #[v13, u] w fun en w' => en = .returned (.bool true) ∧ Sat w0 w' (X * heldA ab a v13 v14 v10 s r R) := by
  have hok : ZOk r := (S.drop1).held_ok
  have hle : (rgF r a).length ≤ r.length := rangeR_le r a.li a.ls a.lo a.hi a.hs a.ho false 0 (-1)
  have hb := hok.big
  refine (zSame (l := rgF r a) (v := v13) (v' := u) (R := X * (pts ab (askO a) * (rS v14 (rgB r a) * (rS v10 r * (zs s r * R))))) (by omega) (S.cong (by rw [held_f]; ac_rfl))).mono ?_
  rintro en w' ⟨rfl, S2⟩
  exact ⟨rfl, (S2.p2.drop1).cong held_f.symm⟩
theorem qTurned (S : Sat w0 w (X * heldA ab a v13 v14 v10 s r R)) :
    Calls Try.prog 23 #[v13] w fun en w' => ∃ u, en = .returned u ∧ Sat w0 w' (rS u (rgB r a) * (X * heldA ab a v13 v14 v10 s r R)) := by
  have hle : (rgF r a).length ≤ r.length := rangeR_le r a.li a.ls a.lo a.hi a.hs a.ho false 0 (-1)
  have hb := S.held_ok.big
  refine (rTurned (by omega) (S.cong held_f)).mono ?_
  rintro en w' ⟨u, rfl, S2⟩
  rw [← held_f, ← range_rev] at S2
  exact ⟨u, rfl, S2⟩
theorem qSameB {u : Value} (S : Sat w0 w (rS u (rgB r a) * (X * heldA ab a v13 v14 v10 s r R))) :
    Calls Try.prog 18 #[v14, u] w fun en w' => en = .returned (.bool true) ∧ Sat w0 w' (X * heldA ab a v13 v14 v10 s r R) := by
  have hok : ZOk r := (S.drop1).held_ok
  have hle : (rgB r a).length ≤ r.length := rangeR_le r a.li a.ls a.lo a.hi a.hs a.ho true 0 (-1)
  have hb := hok.big
  refine (zSame (l := rgB r a) (v := v14) (v' := u) (R := X * (pts ab (askO a) * (rS v13 (rgF r a) * (rS v10 r * (zs s r * R))))) (by omega) (S.cong (by rw [held_b]; ac_rfl))).mono ?_
  rintro en w' ⟨rfl, S2⟩
  exact ⟨rfl, (S2.p2.drop1).cong held_b.symm⟩
end
end Go.Sl
/-! ### LawZsA -/
namespace Go.Sl
open Go.RowKit Go.Proofs Go.Proofs.YteakblblpiihpaaW.PrintWords Go.Proofs.Yteakblblpiihpaa.PZs Go.Sl.DI64
set_option linter.unusedVariables false
set_option linter.unusedSimpArgs false
set_option maxRecDepth 100000

theorem val_field (k : Int) (z : Value) (w : World) : (Instr.field 45 (valV k z) 4).run Try.prog w = .ok z w := by kernel_rfl
set_option maxHeartbeats 32000000 in
theorem asksZs {w : World} {seed : Int} {A0 : Option Addr} {c0 : Nat} {l : List Sc} {A1 : Option Addr} {c1 : Nat} {q : List AskT} (hr0 : Kd.C k30 w A0 l.length l) (hc0 : l.length ≤ c0) (hr1 : Kd.C askK w A1 q.length q) (hc1 : q.length ≤ c1) (hok : ∀ x ∈ q, okI x.fr ∧ okI x.ti ∧ okI x.sk ∧ okI x.ct) :
    Calls Try.prog 4 #[.int .u64 seed, .slice A0 l.length c0, .slice A1 q.length c1] w fun en w' => en = .returned (.bool true) ∧ Below w.heap.size w w' := by
  have HR := Lib.hid hr0
  have HC := Lib.hid hc0
  have HR1 := Lib.hid hr1
  have HC1 := Lib.hid hc1
  have HOK := Lib.hid hok
  have hm1 : l.length ≤ 9223372036854775807 := hr0.2.1
  have hm2 : q.length ≤ 9223372036854775807 := hr1.2.1
  clear hr0 hc0 hr1 hc1 hok
  by_cases hbig : 200 < l.length ∨ 50 < q.length
  · by_cases hb1 : 200 < l.length
    · have hd : decide ((200 : Int) < (l.length : Int)) = true := by simp; omega
      clear hb1 hbig
      go_enter Try.func4, Try.ntmps4
      go_wp2_with fail
      refine (aliveZs (Sat.start w)).mono ?_
      rintro en w5 ⟨rfl, S5⟩
      have HS5 := Lib.hid S5.old1
      clear S5
      go_wp2_with fail
      go_ret
      exact ⟨rfl, HS5.out⟩
    · have hd : decide ((200 : Int) < (l.length : Int)) = false := by simp; omega
      have hd2 : decide ((50 : Int) < (q.length : Int)) = true := by simp; omega
      clear hb1 hbig
      go_enter Try.func4, Try.ntmps4
      go_wp2_with fail
      refine (aliveZs (Sat.start w)).mono ?_
      rintro en w5 ⟨rfl, S5⟩
      have HS5 := Lib.hid S5.old1
      clear S5
      go_wp2_with fail
      go_ret
      exact ⟨rfl, HS5.out⟩
  have hd : decide ((200 : Int) < (l.length : Int)) = false := by simp; omega
  have hd2 : decide ((50 : Int) < (q.length : Int)) = false := by simp; omega
  have hl200 : (l.length : Int) ≤ 200 := by omega
  have hq50 : (q.length : Int) ≤ 50 := by omega
  clear hbig hm1 hm2
  go_enter Try.func4, Try.ntmps4
  go_wp2_with fail
  refine (zsNew (seed := seed) (Sat.start w)).mono ?_
  rintro en w1 ⟨b, rfl, S1⟩
  have HS : Hid (Sat w w1 (zs b (putsS (l.take 0)) * old w)) := Lib.hid S1
  clear S1
  go_wp2_with fail
  go_loopw [28] (fun v28 wr => ∃ i : Nat, v28 = .int .i64 i ∧ i ≤ l.length ∧ Hid (∀ j (h : j < l.length), j < i → l[j].f0.size ≤ 200) ∧ Hid (Sat w wr (zs b (putsS (l.take i)) * old w))) (fun v28 _ => l.length - (RowKit.intOf v28).toNat)
  case atStart => exact ⟨0, rfl, by omega, Lib.hid (fun j _ h => absurd h (by omega)), HS⟩
  case round =>
    clear HS
    obtain ⟨i, rfl, hi, HZ, HSi⟩ := hrel
    by_cases hlt : i < l.length
    · obtain ⟨ad, e1, hx0, hx1⟩ := argZ HR.out HSi.out.drop1.old1 hlt
      subst e1
      obtain ⟨xx, hxx⟩ : ∃ xx, xx = l[i] := ⟨_, rfl⟩
      rw [← hxx] at hx0 hx1
      obtain ⟨ky, sc⟩ := xx
      simp only at hx0 hx1
      obtain ⟨ob, hob⟩ : ∃ ob, ob = wr.heap.size := ⟨_, rfl⟩
      have SA := HSi.out.alloc (.cells #[.string ky, .int .i64 sc] 30)
      rw [← hob] at SA
      have HSA := Lib.hid SA
      have HOB := Lib.hid hob
      have HXX := Lib.hid hxx
      clear SA hob HSi hxx
      go_upto_region 7 with (fail)
      rw [← HOB.out]
      clear hx0 hx1
      refine gen_w HSA.out ?_
      clear HSA HOB
      intro wq SB
      obtain ⟨b0, b1, -⟩ := blk2 SB.blk
      have HSB := Lib.hid SB.p2
      clear SB
      by_cases hfar : 200 < ky.size
      · have hfd : decide ((200 : Int) < (ky.size : Int)) = true := by simp; omega
        clear hfar
        go_wp2_with fail
        refine (aliveZs HSB.out).mono ?_
        rintro en w5 ⟨rfl, S5⟩
        have HS5 := Lib.hid S5.drop1.drop1.old1
        clear S5 HSB b0 b1
        go_wp2_with fail
        go_ret
        exact ⟨rfl, HS5.out⟩
      · have hfd : decide ((200 : Int) < (ky.size : Int)) = false := by simp; omega
        have HK := Lib.hid (show ky.size ≤ 200 by omega)
        have HZ2 : Hid (∀ j (h : j < l.length), j < i + 1 → l[j].f0.size ≤ 200) := Lib.hid (fun j h hj => by
          by_cases e : j = i
          · subst e; rw [← HXX.out]; exact HK.out
          · exact HZ.out j h (by omega))
        have HT : Hid (putsS (l.take (i + 1)) = putS (putsS (l.take i)) ⟨ky, sc⟩) := Lib.hid (by rw [puts_take l hlt, ← HXX.out])
        have HLT : Hid ((putsS (l.take i)).length < 1000000) := Lib.hid (by
          have hsz : ∀ x ∈ l.take i, x.f0.size ≤ maxLen := fun x hx => by
            obtain ⟨j, hj, rfl⟩ := List.mem_iff_getElem.1 hx
            rw [List.getElem_take]
            have hj' : j < i := by simp at hj; omega
            exact Nat.le_trans (HZ.out j (by omega) hj') (by decide)
          have hti : (l.take i).length = i := by rw [List.length_take]; omega
          have := puts_ok hsz (by omega) i (by omega)
          rw [List.take_take, Nat.min_self] at this
          have := this.2
          omega)
        have HML : Hid (ky.size ≤ maxLen) := Lib.hid (Nat.le_trans HK.out (by decide))
        clear hfar
        go_wp2_with fail
        refine (zsPut HML.out HLT.out HSB.out).mono ?_
        rintro en w2 ⟨rfl, S2⟩
        rw [← HT.out] at S2
        have HS3 : Hid (Sat w w2 (zs b (putsS (l.take (i + 1))) * old w)) := Lib.hid (S2.p2.drop1)
        clear b0 b1 S2 HSB
        go_wp2_with fail
        go_roundw
        case rel => exact ⟨i + 1, by simp, by omega, HZ2, HS3⟩
        case measure => simp [RowKit.intOf]; omega
    · have hi2 : i = l.length := by omega
      have HIE : Hid (l.take i = l) := Lib.hid (by rw [hi2, List.take_of_length_le (Nat.le_refl _)])
      have HSZ : Hid (∀ x ∈ l, x.f0.size ≤ maxLen) := Lib.hid (fun x hx => by
        obtain ⟨j, hj, rfl⟩ := List.mem_iff_getElem.1 hx
        exact Nat.le_trans (HZ.out j hj (by omega)) (by decide))
      have HLB : Hid (l.length ≤ 100000) := Lib.hid (by omega)
      have HRD : Hid (∀ (Z : HP) (w' : World), Sat w w' (Z * (zs b (putsS l) * old w)) → Kd.C k30 w' A0 l.length l) := Lib.hid (fun Z w' S => Kd.C_below HR.out (S.drop1.drop1.old1))
      rw [HIE.out] at HSi
      clear HZ hi
      go_wp2_with fail
      refine (rZSet HRD.out HSZ.out HLB.out HSi.out).mono ?_
      rintro en w2 ⟨kk, z, rfl, S2⟩
      obtain ⟨r, hr⟩ : ∃ r, r = putsS l := ⟨_, rfl⟩
      rw [← hr] at S2
      obtain ⟨Az, cz, rfl, hcz, -⟩ := Sat.row_C flatS rfl S2
      obtain ⟨v10, hv10⟩ : ∃ v10, v10 = Value.slice Az r.length cz := ⟨_, rfl⟩
      have HV10 := Lib.hid hv10
      rw [← hv10] at S2
      have HS2 := Lib.hid S2
      clear S2 HSi hr HRD hcz HIE hi2 hlt hv10
      have hvf := val_field kk (.slice Az r.length cz) w2
      go_wp2_with fail
      rw [← HV10.out]
      clear hvf HV10
      go_loopw [49] (fun v49 wr => ∃ i : Nat, v49 = .int .i64 i ∧ i ≤ q.length ∧ Hid (Sat w wr (rS v10 r * (zs b r * old w)))) (fun v49 _ => q.length - (RowKit.intOf v49).toNat)
      case atStart => exact ⟨0, rfl, by omega, HS2⟩
      case round =>
        clear HS2
        obtain ⟨i, rfl, hi, HSi⟩ := hrel
        by_cases hlt : i < q.length
        · obtain ⟨ad, e1, hx0, hxj⟩ := argA HR1.out HSi.out.drop1.drop1.old1 hlt
          subst e1
          obtain ⟨a, ha⟩ : ∃ a, a = q[i] := ⟨_, rfl⟩
          rw [← ha] at hx0 hxj
          have hx1 := hxj 1 _ (by decide) rfl
          have hx2 := hxj 2 _ (by decide) rfl
          have hx3 := hxj 3 _ (by decide) rfl
          have hx4 := hxj 4 _ (by decide) rfl
          have hx5 := hxj 5 _ (by decide) rfl
          have hx6 := hxj 6 _ (by decide) rfl
          have hx7 := hxj 7 _ (by decide) rfl
          have hx8 := hxj 8 _ (by decide) rfl
          have hx9 := hxj 9 _ (by decide) rfl
          have hx10 := hxj 10 _ (by decide) rfl
          obtain ⟨ok1, ok2, ok3, ok4⟩ := HOK.out a (by rw [ha]; exact List.getElem_mem hlt)
          have HO1 := Lib.hid ok1
          have HO2 := Lib.hid ok2
          have HO3 := Lib.hid ok3
          have HO4 := Lib.hid ok4
          obtain ⟨ab, hab⟩ : ∃ ab, ab = wr.heap.size := ⟨_, rfl⟩
          have SA := HSi.out.alloc (askO a)
          rw [← hab] at SA
          have HSA := Lib.hid SA
          have HAB := Lib.hid hab
          clear SA hab HSi hxj ok1 ok2 ok3 ok4 ha
          go_upto_region 15 with (fail)
          rw [← HAB.out]
          clear hx0 hx1 hx2 hx3 hx4 hx5 hx6 hx7 hx8 hx9 hx10
          refine gen_w HSA.out ?_
          clear HSA HAB
          intro wq SB
          obtain ⟨d0, d1, d2, d3, d4, d5, d6, d7, d8, d9, d10⟩ := cells11 SB
          have HSB := Lib.hid SB
          have HRB : Hid (r.length ≤ 1000000) := Lib.hid (SB.p3.zs_big)
          clear SB
          go_wp2_with fail
          refine (zsRange (by decide) (by decide) HSB.out.p3).mono ?_
          rintro en wc1 ⟨v13, rfl, SC⟩
          rw [range_eq HSB.out.p3.zs_ok] at SC
          obtain ⟨A13, c13, rfl, -, -⟩ := Sat.row_C flatS rfl SC
          have HSC := Lib.hid SC
          clear d0 d1 d2 d3 d4 d5 d6 d7 d8 d9 d10 SC HSB
          obtain ⟨d0, d1, d2, d3, d4, d5, d6, d7, d8, d9, d10⟩ := cells11 HSC.out.p3
          go_wp2_with fail
          refine (zsRange (by decide) (by decide) HSC.out.p2).mono ?_
          rintro en wc2 ⟨v14, rfl, SD⟩
          rw [range_eq HSC.out.p2.zs_ok] at SD
          have HH : Hid (Sat w wc2 (emp * heldA ab a (.slice A13 (rgF r a).length c13) v14 v10 b r (old w))) := Lib.hid (SD.cong (by rw [emp_mul]; unfold heldA; ac_rfl))
          clear d0 d1 d2 d3 d4 d5 d6 d7 d8 d9 d10 SD HSC
          go_upto_region 17 with (fail)
          -- BEGIN A
          refine wp_region_noPanic ?_
          refine wp_region_held_drew (S := (fun w' => w'.cell? ⟨ab, 0, none⟩ = some (.int .i64 a.li) ∧ w'.cell? ⟨ab, 1, none⟩ = some (.int .i64 a.ls) ∧ w'.cell? ⟨ab, 2, none⟩ = some (.bool a.lo) ∧ w'.cell? ⟨ab, 3, none⟩ = some (.int .i64 a.hi) ∧ w'.cell? ⟨ab, 4, none⟩ = some (.int .i64 a.hs) ∧ w'.cell? ⟨ab, 5, none⟩ = some (.bool a.ho) ∧ w'.cell? ⟨ab, 6, none⟩ = some (.int .i64 a.fr) ∧ w'.cell? ⟨ab, 7, none⟩ = some (.int .i64 a.ti) ∧ w'.cell? ⟨ab, 8, none⟩ = some (.bool a.back) ∧ w'.cell? ⟨ab, 9, none⟩ = some (.int .i64 a.sk) ∧ w'.cell? ⟨ab, 10, none⟩ = some (.int .i64 a.ct))) (by kernel_rfl) ?_ (fun hHeld => ?_)
          · exact cells11 (HH.out.drew.cong held_c)
          refine wpAnyH_take (i := 0) (v := ?_) (by simp only [List.getElem?_toArray, List.getElem?_cons_succ, List.getElem?_cons_zero]; rfl) (by kernel_rfl) (by kernel_rfl) (by kernel_rfl) (fun _ _ _ h => h) (Or.inl ⟨by rfl, ?_⟩) hHeld ?_
          rotate_left
          · (intro w hSw; (try dsimp only at hSw); go_simp; try with_reducible rfl)
          try simp only [Act.put, List.setIfInBounds_toArray, List.set_cons_zero, List.set_cons_succ]
          refine wpAnyH_take (i := 1) (v := ?_) (by simp only [List.getElem?_toArray, List.getElem?_cons_succ, List.getElem?_cons_zero]; rfl) (by kernel_rfl) (by kernel_rfl) (by kernel_rfl) (fun _ _ _ h => h) (Or.inl ⟨by rfl, ?_⟩) hHeld ?_
          rotate_left
          · (intro w hSw; (try dsimp only at hSw); go_simp; try with_reducible rfl)
          try simp only [Act.put, List.setIfInBounds_toArray, List.set_cons_zero, List.set_cons_succ]
          refine wpAnyH_take (i := 2) (v := ?_) (by simp only [List.getElem?_toArray, List.getElem?_cons_succ, List.getElem?_cons_zero]; rfl) (by kernel_rfl) (by kernel_rfl) (by kernel_rfl) (fun _ _ _ h => h) (Or.inl ⟨by rfl, ?_⟩) hHeld ?_
          rotate_left
          · (intro w hSw; (try dsimp only at hSw); go_simp; try with_reducible rfl)
          try simp only [Act.put, List.setIfInBounds_toArray, List.set_cons_zero, List.set_cons_succ]
          refine wpAnyH_take (i := 3) (v := ?_) (by simp only [List.getElem?_toArray, List.getElem?_cons_succ, List.getElem?_cons_zero]; rfl) (by kernel_rfl) (by kernel_rfl) (by kernel_rfl) (fun _ _ _ h => h) (Or.inl ⟨by rfl, ?_⟩) hHeld ?_
          rotate_left
          · (intro w hSw; (try dsimp only at hSw); go_simp; try with_reducible rfl)
          try simp only [Act.put, List.setIfInBounds_toArray, List.set_cons_zero, List.set_cons_succ]
          refine wpAnyH_take (i := 4) (v := ?_) (by simp only [List.getElem?_toArray, List.getElem?_cons_succ, List.getElem?_cons_zero]; rfl) (by kernel_rfl) (by kernel_rfl) (by kernel_rfl) (fun _ _ _ h => h) (Or.inl ⟨by rfl, ?_⟩) hHeld ?_
          rotate_left
          · (intro w hSw; (try dsimp only at hSw); go_simp; try with_reducible rfl)
          try simp only [Act.put, List.setIfInBounds_toArray, List.set_cons_zero, List.set_cons_succ]
          refine wpAnyH_take (i := 5) (v := ?_) (by simp only [List.getElem?_toArray, List.getElem?_cons_succ, List.getElem?_cons_zero]; rfl) (by kernel_rfl) (by kernel_rfl) (by kernel_rfl) (fun _ _ _ h => h) (Or.inl ⟨by rfl, ?_⟩) hHeld ?_
          rotate_left
          · (intro w hSw; (try dsimp only at hSw); go_simp; try with_reducible rfl)
          try simp only [Act.put, List.setIfInBounds_toArray, List.set_cons_zero, List.set_cons_succ]
          refine wpAnyH_take (i := 6) (v := ?_) (by simp only [List.getElem?_toArray, List.getElem?_cons_succ, List.getElem?_cons_zero]; rfl) (by kernel_rfl) (by kernel_rfl) (by kernel_rfl) (fun _ _ _ h => h) (Or.inl ⟨by rfl, ?_⟩) hHeld ?_
          rotate_left
          · (intro w hSw; (try dsimp only at hSw); go_simp; try with_reducible rfl)
          try simp only [Act.put, List.setIfInBounds_toArray, List.set_cons_zero, List.set_cons_succ]
          refine wpAnyH_take (i := 8) (v := ?_) (by simp only [List.getElem?_toArray, List.getElem?_cons_succ, List.getElem?_cons_zero]; rfl) (by kernel_rfl) (by kernel_rfl) (by kernel_rfl) (fun _ _ _ h => h) (Or.inl ⟨by rfl, ?_⟩) hHeld ?_
          rotate_left
          · (intro w hSw; (try dsimp only at hSw); go_simp; try with_reducible rfl)
          try simp only [Act.put, List.setIfInBounds_toArray, List.set_cons_zero, List.set_cons_succ]
          refine wpAnyH_take (i := 9) (v := ?_) (by simp only [List.getElem?_toArray, List.getElem?_cons_succ, List.getElem?_cons_zero]; rfl) (by kernel_rfl) (by kernel_rfl) (by kernel_rfl) (fun _ _ _ h => h) (Or.inl ⟨by rfl, ?_⟩) hHeld ?_
          rotate_left
          · (intro w hSw; (try dsimp only at hSw); go_simp; try with_reducible rfl)
          try simp only [Act.put, List.setIfInBounds_toArray, List.set_cons_zero, List.set_cons_succ]
          refine wpAnyH_take (i := 10) (v := ?_) (by simp only [List.getElem?_toArray, List.getElem?_cons_succ, List.getElem?_cons_zero]; rfl) (by kernel_rfl) (by kernel_rfl) (by kernel_rfl) (fun _ _ _ h => h) (Or.inl ⟨by rfl, ?_⟩) hHeld ?_
          rotate_left
          · (intro w hSw; (try dsimp only at hSw); go_simp; try with_reducible rfl)
          try simp only [Act.put, List.setIfInBounds_toArray, List.set_cons_zero, List.set_cons_succ]
          refine wpAnyH_take (i := 11) (v := ?_) (by simp only [List.getElem?_toArray, List.getElem?_cons_succ, List.getElem?_cons_zero]; rfl) (by kernel_rfl) (by kernel_rfl) (by kernel_rfl) (fun _ _ _ h => h) (Or.inl ⟨by rfl, ?_⟩) hHeld ?_
          rotate_left
          · (intro w hSw; (try dsimp only at hSw); go_simp; try with_reducible rfl)
          try simp only [Act.put, List.setIfInBounds_toArray, List.set_cons_zero, List.set_cons_succ]
          refine wpAnyH_take (i := 12) (v := ?_) (by simp only [List.getElem?_toArray, List.getElem?_cons_succ, List.getElem?_cons_zero]; rfl) (by kernel_rfl) (by kernel_rfl) (by kernel_rfl) (fun _ _ _ h => h) (Or.inl ⟨by rfl, ?_⟩) hHeld ?_
          rotate_left
          · (intro w hSw; (try dsimp only at hSw); go_simp; try with_reducible rfl)
          try simp only [Act.put, List.setIfInBounds_toArray, List.set_cons_zero, List.set_cons_succ]
          refine wpAnyH_take (i := 13) (v := ?_) (by simp only [List.getElem?_toArray, List.getElem?_cons_succ, List.getElem?_cons_zero]; rfl) (by kernel_rfl) (by kernel_rfl) (by kernel_rfl) (fun _ _ _ h => h) (Or.inl ⟨by rfl, ?_⟩) hHeld ?_
          rotate_left
          · (intro w hSw; (try dsimp only at hSw); go_simp; try with_reducible rfl)
          try simp only [Act.put, List.setIfInBounds_toArray, List.set_cons_zero, List.set_cons_succ]
          refine wpAnyH_take (i := 14) (v := ?_) (by simp only [List.getElem?_toArray, List.getElem?_cons_succ, List.getElem?_cons_zero]; rfl) (by kernel_rfl) (by kernel_rfl) (by kernel_rfl) (fun _ _ _ h => h) (Or.inl ⟨by rfl, ?_⟩) hHeld ?_
          rotate_left
          · (intro w hSw; (try dsimp only at hSw); go_simp; try with_reducible rfl)
          try simp only [Act.put, List.setIfInBounds_toArray, List.set_cons_zero, List.set_cons_succ]
          refine wpAnyH_ready (rs := [7]) (by kernel_rfl) (by simp) ?_
          refine AllReadyH.cons rfl (fun K hK => ?_) AllReadyH.nil
          go_simp
          (refine (qSpan HO1.out HO2.out HH.out.drew).mono ?_; rintro en wc1 ⟨u1, rfl, SS⟩; have H1 := Lib.hid SS; clear SS; go_simp)
          refine hK.out _ _ ?_ (fun hHeld => ?_)
          · exact cells11 ((H1.out.cong (sep_assoc _ _ _).symm).cong held_c)
          clear hK K
          try simp only [Act.put, List.setIfInBounds_toArray, List.set_cons_zero, List.set_cons_succ]
          refine wpAnyH_ready (rs := [15]) (by kernel_rfl) (by simp) ?_
          refine AllReadyH.cons rfl (fun K hK => ?_) AllReadyH.nil
          go_simp
          (refine (qrSpan (H1.out.cong (sep_assoc _ _ _).symm)).mono ?_; rintro en wc2 ⟨u2, rfl, SS⟩; have H2 := Lib.hid SS; clear SS; go_simp)
          refine hK.out _ _ ?_ (fun hHeld => ?_)
          · exact cells11 ((H2.out.cong (sep_assoc _ _ _).symm).cong held_c)
          clear hK K
          try simp only [Act.put, List.setIfInBounds_toArray, List.set_cons_zero, List.set_cons_succ]
          refine wpAnyH_ready (rs := [16]) (by kernel_rfl) (by simp) ?_
          refine AllReadyH.cons rfl (fun K hK => ?_) AllReadyH.nil
          go_simp
          (refine (qSame (Nat.le_trans (spanR_le _ _ _ _) HRB.out) (H2.out.cong (by rw [sep_assoc]))).mono ?_; rintro en wc3 ⟨rfl, SS⟩; have H3 := Lib.hid SS; clear SS; go_simp)
          refine hK.out _ _ ?_ (fun hHeld => ?_)
          · exact cells11 (H3.out.cong held_c)
          clear hK K
          try simp only [Act.put, List.setIfInBounds_toArray, List.set_cons_zero, List.set_cons_succ]
          refine wpAnyH_take (i := 17) (v := (.bool false)) (by simp only [List.getElem?_toArray, List.getElem?_cons_succ, List.getElem?_cons_zero]; rfl) (by kernel_rfl) (by kernel_rfl) (by kernel_rfl) (fun _ _ _ h => h) (Or.inl ⟨by rfl, ?_⟩) hHeld ?_
          · (intro w hSw; (try dsimp only at hSw); go_simp; try with_reducible rfl)
          try simp only [Act.put, List.setIfInBounds_toArray, List.set_cons_zero, List.set_cons_succ]
          refine wpAnyH_take (i := 18) (v := ?_) (by simp only [List.getElem?_toArray, List.getElem?_cons_succ, List.getElem?_cons_zero]; rfl) (by kernel_rfl) (by kernel_rfl) (by kernel_rfl) (fun _ _ _ h => h) (Or.inl ⟨by rfl, ?_⟩) hHeld ?_
          rotate_left
          · (intro w hSw; (try dsimp only at hSw); go_simp; try with_reducible rfl)
          try simp only [Act.put, List.setIfInBounds_toArray, List.set_cons_zero, List.set_cons_succ]
          refine wpAnyH_take (i := 19) (v := ?_) (by simp only [List.getElem?_toArray, List.getElem?_cons_succ, List.getElem?_cons_zero]; rfl) (by kernel_rfl) (by kernel_rfl) (by kernel_rfl) (fun _ _ _ h => h) (Or.inl ⟨by rfl, ?_⟩) hHeld ?_
          rotate_left
          · (intro w hSw; (try dsimp only at hSw); go_simp; try with_reducible rfl)
          try simp only [Act.put, List.setIfInBounds_toArray, List.set_cons_zero, List.set_cons_succ]
          refine wpAnyH_take (i := 20) (v := ?_) (by simp only [List.getElem?_toArray, List.getElem?_cons_succ, List.getElem?_cons_zero]; rfl) (by kernel_rfl) (by kernel_rfl) (by kernel_rfl) (fun _ _ _ h => h) (Or.inl ⟨by rfl, ?_⟩) hHeld ?_
          rotate_left
          · (intro w hSw; (try dsimp only at hSw); go_simp; try with_reducible rfl)
          try simp only [Act.put, List.setIfInBounds_toArray, List.set_cons_zero, List.set_cons_succ]
          refine wpAnyH_take (i := 21) (v := ?_) (by simp only [List.getElem?_toArray, List.getElem?_cons_succ, List.getElem?_cons_zero]; rfl) (by kernel_rfl) (by kernel_rfl) (by kernel_rfl) (fun _ _ _ h => h) (Or.inl ⟨by rfl, ?_⟩) hHeld ?_
          rotate_left
          · (intro w hSw; (try dsimp only at hSw); go_simp; try with_reducible rfl)
          try simp only [Act.put, List.setIfInBounds_toArray, List.set_cons_zero, List.set_cons_succ]
          refine wpAnyH_take (i := 22) (v := ?_) (by simp only [List.getElem?_toArray, List.getElem?_cons_succ, List.getElem?_cons_zero]; rfl) (by kernel_rfl) (by kernel_rfl) (by kernel_rfl) (fun _ _ _ h => h) (Or.inl ⟨by rfl, ?_⟩) hHeld ?_
          rotate_left
          · (intro w hSw; (try dsimp only at hSw); go_simp; try with_reducible rfl)
          try simp only [Act.put, List.setIfInBounds_toArray, List.set_cons_zero, List.set_cons_succ]
          refine wpAnyH_take (i := 23) (v := ?_) (by simp only [List.getElem?_toArray, List.getElem?_cons_succ, List.getElem?_cons_zero]; rfl) (by kernel_rfl) (by kernel_rfl) (by kernel_rfl) (fun _ _ _ h => h) (Or.inl ⟨by rfl, ?_⟩) hHeld ?_
          rotate_left
          · (intro w hSw; (try dsimp only at hSw); go_simp; try with_reducible rfl)
          try simp only [Act.put, List.setIfInBounds_toArray, List.set_cons_zero, List.set_cons_succ]
          refine wpAnyH_take (i := 24) (v := ?_) (by simp only [List.getElem?_toArray, List.getElem?_cons_succ, List.getElem?_cons_zero]; rfl) (by kernel_rfl) (by kernel_rfl) (by kernel_rfl) (fun _ _ _ h => h) (Or.inl ⟨by rfl, ?_⟩) hHeld ?_
          rotate_left
          · (intro w hSw; (try dsimp only at hSw); go_simp; try with_reducible rfl)
          try simp only [Act.put, List.setIfInBounds_toArray, List.set_cons_zero, List.set_cons_succ]
          refine wpAnyH_take (i := 25) (v := ?_) (by simp only [List.getElem?_toArray, List.getElem?_cons_succ, List.getElem?_cons_zero]; rfl) (by kernel_rfl) (by kernel_rfl) (by kernel_rfl) (fun _ _ _ h => h) (Or.inl ⟨by rfl, ?_⟩) hHeld ?_
          rotate_left
          · (intro w hSw; (try dsimp only at hSw); go_simp; try with_reducible rfl)
          try simp only [Act.put, List.setIfInBounds_toArray, List.set_cons_zero, List.set_cons_succ]
          refine wpAnyH_take (i := 26) (v := ?_) (by simp only [List.getElem?_toArray, List.getElem?_cons_succ, List.getElem?_cons_zero]; rfl) (by kernel_rfl) (by kernel_rfl) (by kernel_rfl) (fun _ _ _ h => h) (Or.inl ⟨by rfl, ?_⟩) hHeld ?_
          rotate_left
          · (intro w hSw; (try dsimp only at hSw); go_simp; try with_reducible rfl)
          try simp only [Act.put, List.setIfInBounds_toArray, List.set_cons_zero, List.set_cons_succ]
          refine wpAnyH_take (i := 27) (v := ?_) (by simp only [List.getElem?_toArray, List.getElem?_cons_succ, List.getElem?_cons_zero]; rfl) (by kernel_rfl) (by kernel_rfl) (by kernel_rfl) (fun _ _ _ h => h) (Or.inl ⟨by rfl, ?_⟩) hHeld ?_
          rotate_left
          · (intro w hSw; (try dsimp only at hSw); go_simp; try with_reducible rfl)
          try simp only [Act.put, List.setIfInBounds_toArray, List.set_cons_zero, List.set_cons_succ]
          refine wpAnyH_take (i := 28) (v := ?_) (by simp only [List.getElem?_toArray, List.getElem?_cons_succ, List.getElem?_cons_zero]; rfl) (by kernel_rfl) (by kernel_rfl) (by kernel_rfl) (fun _ _ _ h => h) (Or.inl ⟨by rfl, ?_⟩) hHeld ?_
          rotate_left
          · (intro w hSw; (try dsimp only at hSw); go_simp; try with_reducible rfl)
          try simp only [Act.put, List.setIfInBounds_toArray, List.set_cons_zero, List.set_cons_succ]
          refine wpAnyH_take (i := 29) (v := ?_) (by simp only [List.getElem?_toArray, List.getElem?_cons_succ, List.getElem?_cons_zero]; rfl) (by kernel_rfl) (by kernel_rfl) (by kernel_rfl) (fun _ _ _ h => h) (Or.inl ⟨by rfl, ?_⟩) hHeld ?_
          rotate_left
          · (intro w hSw; (try dsimp only at hSw); go_simp; try with_reducible rfl)
          try simp only [Act.put, List.setIfInBounds_toArray, List.set_cons_zero, List.set_cons_succ]
          refine wpAnyH_take (i := 31) (v := ?_) (by simp only [List.getElem?_toArray, List.getElem?_cons_succ, List.getElem?_cons_zero]; rfl) (by kernel_rfl) (by kernel_rfl) (by kernel_rfl) (fun _ _ _ h => h) (Or.inl ⟨by rfl, ?_⟩) hHeld ?_
          rotate_left
          · (intro w hSw; (try dsimp only at hSw); go_simp; try with_reducible rfl)
          try simp only [Act.put, List.setIfInBounds_toArray, List.set_cons_zero, List.set_cons_succ]
          refine wpAnyH_take (i := 32) (v := ?_) (by simp only [List.getElem?_toArray, List.getElem?_cons_succ, List.getElem?_cons_zero]; rfl) (by kernel_rfl) (by kernel_rfl) (by kernel_rfl) (fun _ _ _ h => h) (Or.inl ⟨by rfl, ?_⟩) hHeld ?_
          rotate_left
          · (intro w hSw; (try dsimp only at hSw); go_simp; try with_reducible rfl)
          try simp only [Act.put, List.setIfInBounds_toArray, List.set_cons_zero, List.set_cons_succ]
          refine wpAnyH_take (i := 33) (v := ?_) (by simp only [List.getElem?_toArray, List.getElem?_cons_succ, List.getElem?_cons_zero]; rfl) (by kernel_rfl) (by kernel_rfl) (by kernel_rfl) (fun _ _ _ h => h) (Or.inl ⟨by rfl, ?_⟩) hHeld ?_
          rotate_left
          · (intro w hSw; (try dsimp only at hSw); go_simp; try with_reducible rfl)
          try simp only [Act.put, List.setIfInBounds_toArray, List.set_cons_zero, List.set_cons_succ]
          refine wpAnyH_take (i := 34) (v := ?_) (by simp only [List.getElem?_toArray, List.getElem?_cons_succ, List.getElem?_cons_zero]; rfl) (by kernel_rfl) (by kernel_rfl) (by kernel_rfl) (fun _ _ _ h => h) (Or.inl ⟨by rfl, ?_⟩) hHeld ?_
          rotate_left
          · (intro w hSw; (try dsimp only at hSw); go_simp; try with_reducible rfl)
          try simp only [Act.put, List.setIfInBounds_toArray, List.set_cons_zero, List.set_cons_succ]
          refine wpAnyH_take (i := 35) (v := ?_) (by simp only [List.getElem?_toArray, List.getElem?_cons_succ, List.getElem?_cons_zero]; rfl) (by kernel_rfl) (by kernel_rfl) (by kernel_rfl) (fun _ _ _ h => h) (Or.inl ⟨by rfl, ?_⟩) hHeld ?_
          rotate_left
          · (intro w hSw; (try dsimp only at hSw); go_simp; try with_reducible rfl)
          try simp only [Act.put, List.setIfInBounds_toArray, List.set_cons_zero, List.set_cons_succ]
          refine wpAnyH_take (i := 36) (v := ?_) (by simp only [List.getElem?_toArray, List.getElem?_cons_succ, List.getElem?_cons_zero]; rfl) (by kernel_rfl) (by kernel_rfl) (by kernel_rfl) (fun _ _ _ h => h) (Or.inl ⟨by rfl, ?_⟩) hHeld ?_
          rotate_left
          · (intro w hSw; (try dsimp only at hSw); go_simp; try with_reducible rfl)
          try simp only [Act.put, List.setIfInBounds_toArray, List.set_cons_zero, List.set_cons_succ]
          refine wpAnyH_take (i := 37) (v := ?_) (by simp only [List.getElem?_toArray, List.getElem?_cons_succ, List.getElem?_cons_zero]; rfl) (by kernel_rfl) (by kernel_rfl) (by kernel_rfl) (fun _ _ _ h => h) (Or.inl ⟨by rfl, ?_⟩) hHeld ?_
          rotate_left
          · (intro w hSw; (try dsimp only at hSw); go_simp; try with_reducible rfl)
          try simp only [Act.put, List.setIfInBounds_toArray, List.set_cons_zero, List.set_cons_succ]
          refine wpAnyH_take (i := 38) (v := ?_) (by simp only [List.getElem?_toArray, List.getElem?_cons_succ, List.getElem?_cons_zero]; rfl) (by kernel_rfl) (by kernel_rfl) (by kernel_rfl) (fun _ _ _ h => h) (Or.inl ⟨by rfl, ?_⟩) hHeld ?_
          rotate_left
          · (intro w hSw; (try dsimp only at hSw); go_simp; try with_reducible rfl)
          try simp only [Act.put, List.setIfInBounds_toArray, List.set_cons_zero, List.set_cons_succ]
          refine wpAnyH_take (i := 39) (v := ?_) (by simp only [List.getElem?_toArray, List.getElem?_cons_succ, List.getElem?_cons_zero]; rfl) (by kernel_rfl) (by kernel_rfl) (by kernel_rfl) (fun _ _ _ h => h) (Or.inl ⟨by rfl, ?_⟩) hHeld ?_
          rotate_left
          · (intro w hSw; (try dsimp only at hSw); go_simp; try with_reducible rfl)
          try simp only [Act.put, List.setIfInBounds_toArray, List.set_cons_zero, List.set_cons_succ]
          refine wpAnyH_take (i := 40) (v := ?_) (by simp only [List.getElem?_toArray, List.getElem?_cons_succ, List.getElem?_cons_zero]; rfl) (by kernel_rfl) (by kernel_rfl) (by kernel_rfl) (fun _ _ _ h => h) (Or.inl ⟨by rfl, ?_⟩) hHeld ?_
          rotate_left
          · (intro w hSw; (try dsimp only at hSw); go_simp; try with_reducible rfl)
          try simp only [Act.put, List.setIfInBounds_toArray, List.set_cons_zero, List.set_cons_succ]
          refine wpAnyH_take (i := 41) (v := ?_) (by simp only [List.getElem?_toArray, List.getElem?_cons_succ, List.getElem?_cons_zero]; rfl) (by kernel_rfl) (by kernel_rfl) (by kernel_rfl) (fun _ _ _ h => h) (Or.inl ⟨by rfl, ?_⟩) hHeld ?_
          rotate_left
          · (intro w hSw; (try dsimp only at hSw); go_simp; try with_reducible rfl)
          try simp only [Act.put, List.setIfInBounds_toArray, List.set_cons_zero, List.set_cons_succ]
          refine wpAnyH_ready (rs := [30]) (by kernel_rfl) (by simp) ?_
          refine AllReadyH.cons rfl (fun K hK => ?_) AllReadyH.nil
          go_simp
          (refine (qRange HO3.out HO4.out H3.out).mono ?_; rintro en wc4 ⟨u4, rfl, SS⟩; have H4 := Lib.hid SS; clear SS; go_simp)
          refine hK.out _ _ ?_ (fun hHeld => ?_)
          · exact cells11 ((H4.out.cong (sep_assoc _ _ _).symm).cong held_c)
          clear hK K
          try simp only [Act.put, List.setIfInBounds_toArray, List.set_cons_zero, List.set_cons_succ]
          refine wpAnyH_ready (rs := [42]) (by kernel_rfl) (by simp) ?_
          refine AllReadyH.cons rfl (fun K hK => ?_) AllReadyH.nil
          go_simp
          (refine (qrRange (H4.out.cong (sep_assoc _ _ _).symm)).mono ?_; rintro en wc5 ⟨u5, rfl, SS⟩; have H5 := Lib.hid SS; clear SS; go_simp)
          refine hK.out _ _ ?_ (fun hHeld => ?_)
          · exact cells11 ((H5.out.cong (sep_assoc _ _ _).symm).cong held_c)
          clear hK K
          try simp only [Act.put, List.setIfInBounds_toArray, List.set_cons_zero, List.set_cons_succ]
          refine wpAnyH_ready (rs := [43]) (by kernel_rfl) (by simp) ?_
          refine AllReadyH.cons rfl (fun K hK => ?_) AllReadyH.nil
          go_simp
          (refine (qSame (Nat.le_trans (rangeR_le _ _ _ _ _ _ _ _ _ _) HRB.out) (H5.out.cong (by rw [sep_assoc]))).mono ?_; rintro en wc6 ⟨rfl, SS⟩; have H6 := Lib.hid SS; clear SS; go_simp)
          refine hK.out _ _ ?_ (fun hHeld => ?_)
          · exact cells11 (H6.out.cong held_c)
          clear hK K
          try simp only [Act.put, List.setIfInBounds_toArray, List.set_cons_zero, List.set_cons_succ]
          refine wpAnyH_take (i := 44) (v := (.bool false)) (by simp only [List.getElem?_toArray, List.getElem?_cons_succ, List.getElem?_cons_zero]; rfl) (by kernel_rfl) (by kernel_rfl) (by kernel_rfl) (fun _ _ _ h => h) (Or.inl ⟨by rfl, ?_⟩) hHeld ?_
          · (intro w hSw; (try dsimp only at hSw); go_simp; try with_reducible rfl)
          try simp only [Act.put, List.setIfInBounds_toArray, List.set_cons_zero, List.set_cons_succ]
          refine wpAnyH_take (i := 45) (v := (.bool false)) (by simp only [List.getElem?_toArray, List.getElem?_cons_succ, List.getElem?_cons_zero]; rfl) (by kernel_rfl) (by kernel_rfl) (by kernel_rfl) (fun _ _ _ h => h) (Or.inl ⟨by rfl, ?_⟩) hHeld ?_
          · (intro w hSw; (try dsimp only at hSw); go_simp; try with_reducible rfl)
          try simp only [Act.put, List.setIfInBounds_toArray, List.set_cons_zero, List.set_cons_succ]
          refine wpAnyH_take (i := 46) (v := ?_) (by simp only [List.getElem?_toArray, List.getElem?_cons_succ, List.getElem?_cons_zero]; rfl) (by kernel_rfl) (by kernel_rfl) (by kernel_rfl) (fun _ _ _ h => h) (Or.inl ⟨by rfl, ?_⟩) hHeld ?_
          rotate_left
          · (intro w hSw; (try dsimp only at hSw); go_simp; try with_reducible rfl)
          try simp only [Act.put, List.setIfInBounds_toArray, List.set_cons_zero, List.set_cons_succ]
          refine wpAnyH_take (i := 47) (v := ?_) (by simp only [List.getElem?_toArray, List.getElem?_cons_succ, List.getElem?_cons_zero]; rfl) (by kernel_rfl) (by kernel_rfl) (by kernel_rfl) (fun _ _ _ h => h) (Or.inl ⟨by rfl, ?_⟩) hHeld ?_
          rotate_left
          · (intro w hSw; (try dsimp only at hSw); go_simp; try with_reducible rfl)
          try simp only [Act.put, List.setIfInBounds_toArray, List.set_cons_zero, List.set_cons_succ]
          refine wpAnyH_take (i := 48) (v := ?_) (by simp only [List.getElem?_toArray, List.getElem?_cons_succ, List.getElem?_cons_zero]; rfl) (by kernel_rfl) (by kernel_rfl) (by kernel_rfl) (fun _ _ _ h => h) (Or.inl ⟨by rfl, ?_⟩) hHeld ?_
          rotate_left
          · (intro w hSw; (try dsimp only at hSw); go_simp; try with_reducible rfl)
          try simp only [Act.put, List.setIfInBounds_toArray, List.set_cons_zero, List.set_cons_succ]
          refine wpAnyH_take (i := 49) (v := ?_) (by simp only [List.getElem?_toArray, List.getElem?_cons_succ, List.getElem?_cons_zero]; rfl) (by kernel_rfl) (by kernel_rfl) (by kernel_rfl) (fun _ _ _ h => h) (Or.inl ⟨by rfl, ?_⟩) hHeld ?_
          rotate_left
          · (intro w hSw; (try dsimp only at hSw); go_simp; try with_reducible rfl)
          try simp only [Act.put, List.setIfInBounds_toArray, List.set_cons_zero, List.set_cons_succ]
          refine wpAnyH_take (i := 50) (v := ?_) (by simp only [List.getElem?_toArray, List.getElem?_cons_succ, List.getElem?_cons_zero]; rfl) (by kernel_rfl) (by kernel_rfl) (by kernel_rfl) (fun _ _ _ h => h) (Or.inl ⟨by rfl, ?_⟩) hHeld ?_
          rotate_left
          · (intro w hSw; (try dsimp only at hSw); go_simp; try with_reducible rfl)
          try simp only [Act.put, List.setIfInBounds_toArray, List.set_cons_zero, List.set_cons_succ]
          refine wpAnyH_take (i := 51) (v := ?_) (by simp only [List.getElem?_toArray, List.getElem?_cons_succ, List.getElem?_cons_zero]; rfl) (by kernel_rfl) (by kernel_rfl) (by kernel_rfl) (fun _ _ _ h => h) (Or.inl ⟨by rfl, ?_⟩) hHeld ?_
          rotate_left
          · (intro w hSw; (try dsimp only at hSw); go_simp; try with_reducible rfl)
          try simp only [Act.put, List.setIfInBounds_toArray, List.set_cons_zero, List.set_cons_succ]
          refine wpAnyH_take (i := 53) (v := ?_) (by simp only [List.getElem?_toArray, List.getElem?_cons_succ, List.getElem?_cons_zero]; rfl) (by kernel_rfl) (by kernel_rfl) (by kernel_rfl) (fun _ _ _ h => h) (Or.inl ⟨by rfl, ?_⟩) hHeld ?_
          rotate_left
          · (intro w hSw; (try dsimp only at hSw); go_simp; try with_reducible rfl)
          try simp only [Act.put, List.setIfInBounds_toArray, List.set_cons_zero, List.set_cons_succ]
          refine wpAnyH_take (i := 54) (v := ?_) (by simp only [List.getElem?_toArray, List.getElem?_cons_succ, List.getElem?_cons_zero]; rfl) (by kernel_rfl) (by kernel_rfl) (by kernel_rfl) (fun _ _ _ h => h) (Or.inl ⟨by rfl, ?_⟩) hHeld ?_
          rotate_left
          · (intro w hSw; (try dsimp only at hSw); go_simp; try with_reducible rfl)
          try simp only [Act.put, List.setIfInBounds_toArray, List.set_cons_zero, List.set_cons_succ]
          refine wpAnyH_ready (rs := [52]) (by kernel_rfl) (by simp) ?_
          refine AllReadyH.cons rfl (fun K hK => ?_) AllReadyH.nil
          go_simp
          (refine (qCount H6.out).mono ?_; rintro en wc7 ⟨rfl, SS⟩; have H7 := Lib.hid SS; clear SS; go_simp)
          refine hK.out _ _ ?_ (fun hHeld => ?_)
          · exact cells11 (H7.out.cong held_c)
          clear hK K
          try simp only [Act.put, List.setIfInBounds_toArray, List.set_cons_zero, List.set_cons_succ]
          refine wpAnyH_take (i := 55) (v := (.bool false)) (by simp only [List.getElem?_toArray, List.getElem?_cons_succ, List.getElem?_cons_zero]; rfl) (by kernel_rfl) (by kernel_rfl) (by kernel_rfl) (fun _ _ _ h => h) (Or.inl ⟨by rfl, ?_⟩) hHeld ?_
          · (intro w hSw; (try dsimp only at hSw); go_simp; try with_reducible rfl)
          try simp only [Act.put, List.setIfInBounds_toArray, List.set_cons_zero, List.set_cons_succ]
          refine wpAnyH_take (i := 56) (v := (.bool false)) (by simp only [List.getElem?_toArray, List.getElem?_cons_succ, List.getElem?_cons_zero]; rfl) (by kernel_rfl) (by kernel_rfl) (by kernel_rfl) (fun _ _ _ h => h) (Or.inl ⟨by rfl, ?_⟩) hHeld ?_
          · (intro w hSw; (try dsimp only at hSw); go_simp; try with_reducible rfl)
          try simp only [Act.put, List.setIfInBounds_toArray, List.set_cons_zero, List.set_cons_succ]
          refine wpAnyH_take (i := 57) (v := ?_) (by simp only [List.getElem?_toArray, List.getElem?_cons_succ, List.getElem?_cons_zero]; rfl) (by kernel_rfl) (by kernel_rfl) (by kernel_rfl) (fun _ _ _ h => h) (Or.inl ⟨by rfl, ?_⟩) hHeld ?_
          rotate_left
          · (intro w hSw; (try dsimp only at hSw); go_simp; try with_reducible rfl)
          try simp only [Act.put, List.setIfInBounds_toArray, List.set_cons_zero, List.set_cons_succ]
          refine wpAnyH_take (i := 58) (v := ?_) (by simp only [List.getElem?_toArray, List.getElem?_cons_succ, List.getElem?_cons_zero]; rfl) (by kernel_rfl) (by kernel_rfl) (by kernel_rfl) (fun _ _ _ h => h) (Or.inl ⟨by rfl, ?_⟩) hHeld ?_
          rotate_left
          · (intro w hSw; (try dsimp only at hSw); go_simp; try with_reducible rfl)
          try simp only [Act.put, List.setIfInBounds_toArray, List.set_cons_zero, List.set_cons_succ]
          refine wpAnyH_take (i := 59) (v := ?_) (by simp only [List.getElem?_toArray, List.getElem?_cons_succ, List.getElem?_cons_zero]; rfl) (by kernel_rfl) (by kernel_rfl) (by kernel_rfl) (fun _ _ _ h => h) (Or.inl ⟨by rfl, ?_⟩) hHeld ?_
          rotate_left
          · (intro w hSw; (try dsimp only at hSw); go_simp; try with_reducible rfl)
          try simp only [Act.put, List.setIfInBounds_toArray, List.set_cons_zero, List.set_cons_succ]
          refine wpAnyH_take (i := 60) (v := ?_) (by simp only [List.getElem?_toArray, List.getElem?_cons_succ, List.getElem?_cons_zero]; rfl) (by kernel_rfl) (by kernel_rfl) (by kernel_rfl) (fun _ _ _ h => h) (Or.inl ⟨by rfl, ?_⟩) hHeld ?_
          rotate_left
          · (intro w hSw; (try dsimp only at hSw); go_simp; try with_reducible rfl)
          try simp only [Act.put, List.setIfInBounds_toArray, List.set_cons_zero, List.set_cons_succ]
          refine wpAnyH_take (i := 61) (v := ?_) (by simp only [List.getElem?_toArray, List.getElem?_cons_succ, List.getElem?_cons_zero]; rfl) (by kernel_rfl) (by kernel_rfl) (by kernel_rfl) (fun _ _ _ h => h) (Or.inl ⟨by rfl, ?_⟩) hHeld ?_
          rotate_left
          · (intro w hSw; (try dsimp only at hSw); go_simp; try with_reducible rfl)
          try simp only [Act.put, List.setIfInBounds_toArray, List.set_cons_zero, List.set_cons_succ]
          refine wpAnyH_take (i := 62) (v := ?_) (by simp only [List.getElem?_toArray, List.getElem?_cons_succ, List.getElem?_cons_zero]; rfl) (by kernel_rfl) (by kernel_rfl) (by kernel_rfl) (fun _ _ _ h => h) (Or.inl ⟨by rfl, ?_⟩) hHeld ?_
          rotate_left
          · (intro w hSw; (try dsimp only at hSw); go_simp; try with_reducible rfl)
          try simp only [Act.put, List.setIfInBounds_toArray, List.set_cons_zero, List.set_cons_succ]
          refine wpAnyH_take (i := 63) (v := ?_) (by simp only [List.getElem?_toArray, List.getElem?_cons_succ, List.getElem?_cons_zero]; rfl) (by kernel_rfl) (by kernel_rfl) (by kernel_rfl) (fun _ _ _ h => h) (Or.inl ⟨by rfl, ?_⟩) hHeld ?_
          rotate_left
          · (intro w hSw; (try dsimp only at hSw); go_simp; try with_reducible rfl)
          try simp only [Act.put, List.setIfInBounds_toArray, List.set_cons_zero, List.set_cons_succ]
          refine wpAnyH_ready (rs := [64]) (by kernel_rfl) (by simp) ?_
          refine AllReadyH.cons rfl (fun K hK => ?_) AllReadyH.nil
          go_simp
          (refine (qrRange H7.out).mono ?_; rintro en wc8 ⟨u8, rfl, SS⟩; have H8 := Lib.hid SS; clear SS; go_simp)
          refine hK.out _ _ ?_ (fun hHeld => ?_)
          · exact cells11 ((H8.out.cong (sep_assoc _ _ _).symm).cong held_c)
          clear hK K
          try simp only [Act.put, List.setIfInBounds_toArray, List.set_cons_zero, List.set_cons_succ]
          refine wpAnyH_ready (rs := [65]) (by kernel_rfl) (by simp) ?_
          refine AllReadyH.cons rfl (fun K hK => ?_) AllReadyH.nil
          go_simp
          (refine (qSameF H8.out).mono ?_; rintro en wc9 ⟨rfl, SS⟩; have H9 := Lib.hid SS; clear SS; go_simp)
          refine hK.out _ _ ?_ (fun hHeld => ?_)
          · exact cells11 (H9.out.cong held_c)
          clear hK K
          try simp only [Act.put, List.setIfInBounds_toArray, List.set_cons_zero, List.set_cons_succ]
          refine wpAnyH_take (i := 66) (v := (.bool false)) (by simp only [List.getElem?_toArray, List.getElem?_cons_succ, List.getElem?_cons_zero]; rfl) (by kernel_rfl) (by kernel_rfl) (by kernel_rfl) (fun _ _ _ h => h) (Or.inl ⟨by rfl, ?_⟩) hHeld ?_
          · (intro w hSw; (try dsimp only at hSw); go_simp; try with_reducible rfl)
          try simp only [Act.put, List.setIfInBounds_toArray, List.set_cons_zero, List.set_cons_succ]
          refine wpAnyH_take (i := 67) (v := (.bool false)) (by simp only [List.getElem?_toArray, List.getElem?_cons_succ, List.getElem?_cons_zero]; rfl) (by kernel_rfl) (by kernel_rfl) (by kernel_rfl) (fun _ _ _ h => h) (Or.inl ⟨by rfl, ?_⟩) hHeld ?_
          · (intro w hSw; (try dsimp only at hSw); go_simp; try with_reducible rfl)
          try simp only [Act.put, List.setIfInBounds_toArray, List.set_cons_zero, List.set_cons_succ]
          refine wpAnyH_take (i := 68) (v := ?_) (by simp only [List.getElem?_toArray, List.getElem?_cons_succ, List.getElem?_cons_zero]; rfl) (by kernel_rfl) (by kernel_rfl) (by kernel_rfl) (fun _ _ _ h => h) (Or.inl ⟨by rfl, ?_⟩) hHeld ?_
          rotate_left
          · (intro w hSw; (try dsimp only at hSw); go_simp; try with_reducible rfl)
          try simp only [Act.put, List.setIfInBounds_toArray, List.set_cons_zero, List.set_cons_succ]
          refine wpAnyH_take (i := 69) (v := ?_) (by simp only [List.getElem?_toArray, List.getElem?_cons_succ, List.getElem?_cons_zero]; rfl) (by kernel_rfl) (by kernel_rfl) (by kernel_rfl) (fun _ _ _ h => h) (Or.inl ⟨by rfl, ?_⟩) hHeld ?_
          rotate_left
          · (intro w hSw; (try dsimp only at hSw); go_simp; try with_reducible rfl)
          try simp only [Act.put, List.setIfInBounds_toArray, List.set_cons_zero, List.set_cons_succ]
          refine wpAnyH_take (i := 70) (v := ?_) (by simp only [List.getElem?_toArray, List.getElem?_cons_succ, List.getElem?_cons_zero]; rfl) (by kernel_rfl) (by kernel_rfl) (by kernel_rfl) (fun _ _ _ h => h) (Or.inl ⟨by rfl, ?_⟩) hHeld ?_
          rotate_left
          · (intro w hSw; (try dsimp only at hSw); go_simp; try with_reducible rfl)
          try simp only [Act.put, List.setIfInBounds_toArray, List.set_cons_zero, List.set_cons_succ]
          refine wpAnyH_ready (rs := [71]) (by kernel_rfl) (by simp) ?_
          refine AllReadyH.cons rfl (fun K hK => ?_) AllReadyH.nil
          go_simp
          (refine (qTurned H9.out).mono ?_; rintro en wc10 ⟨u10, rfl, SS⟩; have H10 := Lib.hid SS; clear SS; go_simp)
          refine hK.out _ _ ?_ (fun hHeld => ?_)
          · exact cells11 ((H10.out.cong (sep_assoc _ _ _).symm).cong held_c)
          clear hK K
          try simp only [Act.put, List.setIfInBounds_toArray, List.set_cons_zero, List.set_cons_succ]
          refine wpAnyH_ready (rs := [72]) (by kernel_rfl) (by simp) ?_
          refine AllReadyH.cons rfl (fun K hK => ?_) AllReadyH.nil
          go_simp
          (refine (qSameB H10.out).mono ?_; rintro en wc11 ⟨rfl, SS⟩; have H11 := Lib.hid SS; clear SS; go_simp)
          refine hK.out _ _ ?_ (fun hHeld => ?_)
          · exact cells11 (H11.out.cong held_c)
          clear hK K
          try simp only [Act.put, List.setIfInBounds_toArray, List.set_cons_zero, List.set_cons_succ]
          refine wpAnyH_take (i := 73) (v := (.bool false)) (by simp only [List.getElem?_toArray, List.getElem?_cons_succ, List.getElem?_cons_zero]; rfl) (by kernel_rfl) (by kernel_rfl) (by kernel_rfl) (fun _ _ _ h => h) (Or.inl ⟨by rfl, ?_⟩) hHeld ?_
          · (intro w hSw; (try dsimp only at hSw); go_simp; try with_reducible rfl)
          try simp only [Act.put, List.setIfInBounds_toArray, List.set_cons_zero, List.set_cons_succ]
          refine wpAnyH_take (i := 74) (v := (.bool false)) (by simp only [List.getElem?_toArray, List.getElem?_cons_succ, List.getElem?_cons_zero]; rfl) (by kernel_rfl) (by kernel_rfl) (by kernel_rfl) (fun _ _ _ h => h) (Or.inl ⟨by rfl, ?_⟩) hHeld ?_
          · (intro w hSw; (try dsimp only at hSw); go_simp; try with_reducible rfl)
          try simp only [Act.put, List.setIfInBounds_toArray, List.set_cons_zero, List.set_cons_succ]
          refine wpAnyH_done (by kernel_rfl) ?_ _
          refine NoPanic.normal ?_
          -- END A
          have HSE : Hid (Sat w wc11 (rS v10 r * (zs b r * old w))) := Lib.hid ((H11.out.cong (by rw [emp_mul])).drop1.drop1.drop1)
          clear HH H1 H2 H3 H4 H5 H6 H7 H8 H9 H10 H11 hHeld
          go_wp2_with fail
          go_roundw
          case rel => exact ⟨i + 1, by simp, by omega, HSE⟩
          case measure => simp [RowKit.intOf]; omega
        · go_wp2_with fail
          refine (aliveZs HSi.out).mono ?_
          rintro en w5 ⟨rfl, S5⟩
          have HS5 := Lib.hid S5.drop1.drop1.old1
          clear S5 HSi
          go_wp2_with fail
          go_ret
          exact ⟨rfl, HS5.out⟩
end Go.Sl
/-! ### LawZsAW -/
namespace Go.Sl
open Go.RowKit Go.Proofs Go.Proofs.YteakblblpiihpaaW.PrintWords Go.Proofs.Yteakblblpiihpaa.PZs
theorem asksZsWalk {w : World} (seed : Int) (_ : (Lit.int .u64 seed).wf = true) {A0 : Option Addr} {c0 : Nat} {l : List Sc} (hC : Kd.C k30 w A0 l.length l) (hc : l.length ≤ c0) (_ : ∀ x ∈ l, x.f0.size ≤ maxLen ∧ (Lit.int .i64 x.f1).wf = true)
    {A1 : Option Addr} {c1 : Nat} {q : List AskT} (hC1 : Kd.C askK w A1 q.length q) (hc1 : q.length ≤ c1) (hok : ∀ x ∈ q, okI x.fr ∧ okI x.ti ∧ okI x.sk ∧ okI x.ct) :
    Calls Try.prog 4 #[.int .u64 seed, .slice A0 l.length c0, .slice A1 q.length c1] w fun en w' => en = .returned (.bool true) ∧ Below w.heap.size w w' := asksZs hC hc hC1 hc1 hok
end Go.Sl
/-! ### RowZsetAsks -/
namespace Go.Proofs.Yteakblblpiihpaa.zsetAsks
open Go.ChangeShapes Go.WideShapes Go.ChangeAt Go.RowKit Go.Sl Go.Proofs.YteakblblpiihpaaW.PrintWords
open Go.ChangeMaps (open_string shut_string)
set_option linter.unusedVariables false
theorem own : ownKnob Try.prog.godebug = none := by kernel_rfl
theorem laidOut : laidOutB Try.prog = true := by kernel_rfl
set_option maxRecDepth 100000 in
theorem lifted (os : Os) (started : os.Started) (H : Type) (enc : TypeId × Value → H) :
    ReturnsInHanded {} Try.checked os 4 .any (Rows.zsetAsksSpec.pre6 enc Try.prog Try.f4 Rows.zsetAsksRow.domain false) (Rows.zsetAsksSpec.post enc Try.prog Try.f4 false true false false) := by
  refine returnsInHanded_of_change_sized (C := Try.checked) own started (by kernel_rfl) Try.func4
    (ChangeSpec.witness6 (enc := enc) (C := Try.checked) false ⟨#[], #[.int .u64 0, .slice none 0 0, .slice none 0 0], []⟩ 8 (by kernel_rfl) (by kernel_rfl) (by kernel_rfl) (by kernel_rfl)) ?_
  intro W base args ds gs before hval0 hW hcnd hsz0 _
  have hval : ∀ (j : Nat) t v, Try.f4.params[j]? = some t → args[j]? = some v → Value.okWide Try.prog W .any base t v := hval0
  have hW' := hW
  obtain ⟨p, q, hA0, hV, rfl, hfz, hnd⟩ := hW
  have hA : DataW.TrodAll enc Try.prog W 0 (fun _ => true) true Try.f4.params.toList args.toList ds p := hA0
  rw [Try.params4] at hA hval
  obtain ⟨v0, vs0, d0, ds0, p0, q0, hargs, rfl, rfl, h0, r0⟩ := trodAll_cons hA
  obtain ⟨v1, vs1, d1, ds1, p1, q1, rfl, rfl, rfl, h1, r1⟩ := trodAll_cons r0
  obtain ⟨v2, vs2, d2, ds2, p2, q2, rfl, rfl, rfl, h2, r2⟩ := trodAll_cons r1
  obtain ⟨rfl, rfl, rfl⟩ := trodAll_nil r2
  obtain rfl : args = #[v0, v1, v2] := by cases args; simp_all
  obtain ⟨rfl, rfl⟩ := trodVars_none hV
  obtain ⟨a0, rfl, rfl, rfl, w0⟩ := open_int Try.underlying39 (hval 0 39 v0 rfl rfl) h0
  obtain ⟨a1, len1, cap1, rfl⟩ := okWide_slice Try.underlying22 (hval 1 22 v1 rfl rfl)
  have k1 := h1
  have lt1 : ∀ x ∈ p1, x.block < W.heap.size := by obtain ⟨m, hm⟩ := k1; exact DataW.trod_lt m _ _ _ hm
  obtain ⟨l1, rfl, hc1, hC1, hk1⟩ := (opensScs).arg h1
  obtain ⟨a2, len2, cap2, rfl⟩ := okWide_slice Try.underlying40 (hval 2 40 v2 rfl rfl)
  have k2 := h2
  have lt2 : ∀ x ∈ p2, x.block < W.heap.size := by obtain ⟨m, hm⟩ := k2; exact DataW.trod_lt m _ _ _ hm
  obtain ⟨l2, rfl, hc2, hC2, hk2⟩ := (opensAsks).arg h2
  clear hA0 hval0 hsz0
  refine (Go.Sl.asksZsWalk a0 w0 hC1 hc1 hk1 hC2 hc2 hk2).mono fun e W' ⟨he, bel⟩ => ?_
  subst he
  exact ⟨_, rfl, _, _, _, [], _, [], hW', trodAll_mk1 (shut_bool Try.underlying4 _), (trodAll_cons_mk (shut_int Try.underlying39 w0) (trodAll_cons_mk (Below.trod laidOut (by kernel_rfl) (of_decide_eq_true (by kernel_rfl)) k1 bel lt1) (trodAll_cons_mk (Below.trod laidOut (by kernel_rfl) (of_decide_eq_true (by kernel_rfl)) k2 bel lt2) trodAll_mk0))), rfl, bel.frame _, fun h => by cases h⟩
theorem over : Rows.zsetAsksRow.holds Try.pinned (OpenSpec.ofChange Rows.zsetAsksSpec) :=
  OpenClaim.holds_of_wide 4 Try.f4 rfl rfl rfl rfl rfl rfl rfl ⟨rfl, rfl, rfl, rfl, rfl⟩ rfl rfl rfl rfl rfl (by kernel_rfl) Try.func4 (by kernel_rfl)
    (of_decide_eq_true (by kernel_rfl)) (by unfold Func.isWrapper; first | (rw [if_pos (by decide +kernel)]; kernel_rfl) | (rw [if_neg (by decide +kernel)]; exact ⟨rfl, rfl⟩))
    (fun os started H enc _ => lifted os started H enc)
end Go.Proofs.Yteakblblpiihpaa.zsetAsks
namespace Go.Proofs.Yteakblblpiihpaa
theorem zsetAsks_holds : Rows.ZsetAsksSaid := zsetAsks.over
#print axioms zsetAsks_holds
end Go.Proofs.Yteakblblpiihpaa
