/-
  'mewslaw38.WaitOrder': the plain law, and the walk.
-/
import Derived.Test.YtddkongfhffajaaLawWaitO
import Derived.Test.YtddkongfhffajaaLawOrdP
import Derived.Test.YtddkongfhffajaaOpen
namespace Go.Sl
open Go.RowKit Go.Proofs Go.Proofs.YtddkongfhffajaaW.PrintWords Go.Proofs.Ytddkongfhffajaa.PWaitOrder
set_option linter.unusedVariables false
set_option linter.unusedSimpArgs false
set_option maxRecDepth 100000

instance : Inhabited S50 := ⟨z50⟩
instance : Inhabited S52 := ⟨z52⟩
theorem opensWaiter : Opens Try.prog 50 k50 (fun x => x.f1.length ≤ 9223372036854775807) := by
  have hs : Opens Try.prog 27 (Kd.slice 9 Kd.string) (fun xs => xs.length ≤ 9223372036854775807) := by
    constructor
    intro H enc w base sp held fuel cs x h
    obtain ⟨a, ha, _⟩ := (opens_slice (P := Try.prog) Try.underlying27 (by kernel_rfl) (opens_string Try.underlying9)).out h
    obtain ⟨A, c, e, hc, hC⟩ := ha
    exact ⟨a, ⟨A, c, e, hc, hC⟩, hC.2.1⟩
  have h := opens_struct (P := Try.prog) (t := 50) Try.underlying50 (by kernel_rfl) (opensFs_cons (opens_int Try.underlying3) rfl (by kernel_rfl) (opensFs_cons (off := 1) hs rfl (by kernel_rfl)
    (opensFs_cons (off := 2) (opens_bool Try.underlying4) rfl (by kernel_rfl) (opensFs_cons (off := 3) (opens_bool Try.underlying4) rfl (by kernel_rfl) (opensFs_cons (off := 4) (opens_string Try.underlying9) rfl (by kernel_rfl)
    (opensFs_cons (off := 5) (opens_bool Try.underlying4) rfl (by kernel_rfl) (opensFs_one (off := 6) (opens_int Try.underlying2) rfl (by kernel_rfl)) rfl rfl) rfl rfl) rfl rfl) rfl rfl) rfl rfl) rfl rfl)
  exact (h.iso (fun x : S50 => (x.f0, x.f1, x.f2, x.f3, x.f4, x.f5, x.f6)) (fun p => ⟨p.1, p.2.1, p.2.2.1, p.2.2.2.1, p.2.2.2.2.1, p.2.2.2.2.2.1, p.2.2.2.2.2.2⟩) (fun _ => rfl)).weaken (fun _ h => h.2.1)
theorem opensOp38 : Opens Try.prog 52 k52 (fun x => x.f1.f1.length ≤ 9223372036854775807) := by
  have h := opens_struct (P := Try.prog) (t := 52) Try.underlying52 (by kernel_rfl) (opensFs_cons (opens_int Try.underlying3) rfl (by kernel_rfl) (opensFs_one (off := 1) opensWaiter rfl (by kernel_rfl)) rfl rfl)
  exact (h.iso (fun x : S52 => (x.f0, x.f1)) (fun p => ⟨p.1, p.2⟩) (fun _ => rfl)).weaken (fun _ h => h.2)
theorem opensOps38 : Opens Try.prog 44 (Kd.slice 52 k52) (fun xs => ∀ x ∈ xs, x.f1.f1.length ≤ 9223372036854775807) := opens_slice Try.underlying44 (by kernel_rfl) opensOp38

/-- The handles of those that wait for a key, in the order in which they came. -/
def cameOf (ps : List Pl) (key : ByteArray) : List Int := (ps.filter fun p => hasS p.ks key).map (·.h)
theorem cameOf_length (ps : List Pl) (key : ByteArray) : (cameOf ps key).length ≤ ps.length := by
  unfold cameOf
  rw [List.length_map]
  exact List.length_filter_le _ _
theorem cameOf_drop (ps : List Pl) (h : Int) (key : ByteArray) : withoutI (cameOf ps key) h = cameOf (dropH ps h) key := by
  unfold cameOf withoutI dropH
  rw [List.filter_map, List.filter_filter, List.filter_filter]
  congr 1
  refine List.filter_congr fun q _ => ?_
  simp only [Function.comp]
  rw [Bool.and_comm]
theorem cameOf_add (ps : List Pl) (p : Pl) (key : ByteArray) : cameOf (ps ++ [p]) key = cameOf ps key ++ if hasS p.ks key then [p.h] else [] := by
  unfold cameOf
  rw [List.filter_append, List.map_append]
  congr 1
  cases hk : hasS p.ks key <;> simp [hk]
theorem cameOf_nil {ps : List Pl} {key : ByteArray} (h : cameOf ps key = []) : firstK ps key = none := by
  unfold cameOf at h
  rw [List.map_eq_nil_iff, List.filter_eq_nil_iff] at h
  exact List.find?_eq_none.2 h
theorem cameOf_cons {ps : List Pl} {n : Int} (ho : WOk ps n) {key : ByteArray} {h : Int} {t : List Int} (hc : cameOf ps key = h :: t) : ∃ p, firstK ps key = some p ∧ p.h = h ∧ cameOf (dropH ps h) key = t := by
  have hn : (cameOf ps key).Nodup := by unfold cameOf; exact ho.hs.sublist (List.filter_sublist.map _)
  cases hf : firstK ps key with
  | none =>
    have : cameOf ps key = [] := by
      unfold cameOf
      rw [List.map_eq_nil_iff, List.filter_eq_nil_iff]
      exact List.find?_eq_none.1 hf
    rw [this] at hc; cases hc
  | some p =>
    have e : ps.filter (fun p => hasS p.ks key) = p :: (ps.filter (fun p => hasS p.ks key)).tail := by
      have h1 : (ps.filter fun p => hasS p.ks key).head? = some p := by rw [List.head?_filter]; exact hf
      cases hl : ps.filter (fun p => hasS p.ks key) with
      | nil => rw [hl] at h1; cases h1
      | cons a l => rw [hl] at h1; simp at h1; subst h1; rfl
    have hh : p.h = h := by
      unfold cameOf at hc
      rw [e, List.map_cons] at hc
      injection hc
    refine ⟨p, rfl, hh, ?_⟩
    rw [← cameOf_drop, hc]
    rw [hc, List.nodup_cons] at hn
    unfold withoutI
    rw [List.filter_cons_of_neg (by simp)]
    refine List.filter_eq_self.2 fun x hx => ?_
    simp only [Bool.not_eq_true', decide_eq_false_iff_not]
    exact fun e => hn.1 (e ▸ hx)
theorem dropH_length (ps : List Pl) (h : Int) : (dropH ps h).length ≤ ps.length := List.length_filter_le _ _
theorem dropH_has (ps : List Pl) (h : Int) : hasH (dropH ps h) h = false := List.any_eq_false.2 fun p hp => by
  have := (List.mem_filter.1 hp).2
  simpa using this

theorem intInfo : (Try.prog.info? 3).map (fun i => (i.zero, i.size, i.bytes)) = some (some (.int .i64 0), 1, 8) := by kernel_rfl
/-- Where the first loop stands. -/
structure WSt where
  i : Int
  ps : List Pl
  n : Int
  v : Value

set_option maxHeartbeats 16000000 in
theorem waitOrderWalk {w : World} {A0 : Option Addr} {c0 : Nat} {l : List S52} (hr0 : Kd.C k52 w A0 l.length l) (hc0 : l.length ≤ c0) (hok : ∀ x ∈ l, x.f1.f1.length ≤ 9223372036854775807) (key : ByteArray) (_ : key.size ≤ maxLen) :
    Calls Try.prog 6 #[.slice A0 l.length c0, .string key] w fun en w' => en = .returned (.bool true) ∧ Below w.heap.size w w' := by
  have hmax : l.length ≤ 9223372036854775807 := hr0.2.1
  have HR := Lib.hid hr0
  have HC := Lib.hid hc0
  obtain ⟨k, far, hfar, hbig⟩ := far38_f hmax hok
  have HF := Lib.hid hfar
  have HBG := Lib.hid hbig
  clear hr0 hc0 hok hfar hbig
  go_enter Try.func6, Try.ntmps6
  go_wp2_with fail
  refine (mewslaw38_far.calls k A0 c0 l far w HR.out HC.out HF.out).mono ?_
  rintro en w1 ⟨rfl, hb⟩
  have HS1 := Lib.hid ((Sat.start w).below hb)
  clear hb HF
  cases far with
  | true =>
    go_wp2_with fail
    refine (aliveWait HS1.out).mono ?_
    rintro en w5 ⟨rfl, S5⟩
    have HS5 := Lib.hid S5.old1
    clear S5
    go_wp2_with fail
    go_ret
    exact ⟨rfl, HS5.out⟩
  | false =>
    obtain ⟨hl200, hks⟩ := HBG.out rfl
    have HKS := Lib.hid hks
    clear hks HBG
    by_cases hsz : (key.size : Int) > 300
    · go_wp2_with fail
      refine (aliveWait HS1.out).mono ?_
      rintro en w5 ⟨rfl, S5⟩
      have HS5 := Lib.hid S5.old1
      clear S5
      go_wp2_with fail
      go_ret
      exact ⟨rfl, HS5.out⟩
    · go_wp2_with fail
      refine (wtNew HS1.out).mono ?_
      rintro en w2 ⟨r, rfl, S2⟩
      have HS2 := Lib.hid ((S2.row_nil 3 1).p2)
      clear S2 HS1 hsz
      go_wp2_with fail
      go_loopw [6, 30] (fun v6 v30 wr => ∃ q : WSt, v30 = .int .i64 q.i ∧ 0 ≤ q.i ∧ q.i ≤ l.length ∧ q.n ≤ q.i ∧ (q.ps.length : Int) ≤ q.i ∧ v6 = q.v ∧ Hid (Sat w wr (wt r q.ps q.n * (row 3 1 q.v (cameOf q.ps key).length ((cameOf q.ps key).map (Value.int .i64)) * old w)))) (fun _ v30 _ => l.length - (intOf v30).toNat)
      case atStart => exact ⟨⟨0, [], 0, .slice none 0 0⟩, rfl, by simp, by simp, by simp, by simp, rfl, HS2⟩
      case round =>
        clear HS2
        obtain ⟨⟨i, ps, n, v⟩, rfl, h0, h1, hn, hps, rfl, HSr⟩ := hrel
        simp only at h0 h1 hn hps HSr
        by_cases hlt : i < l.length
        · obtain ⟨ad, A2, c2, e1, x0, x1, x2, x3, x4, x5, x6, x7, hl2, hCk⟩ := at_T52 HR.out i h0 hlt
          cases e1
          obtain ⟨Av, cv, rfl, hcv, hCv⟩ := HSr.out.p2.row_ints rfl
          have hbel := HSr.out.drop1.drop1.old1
          replace x0 := (hbel.cell (World.block_lt_of_cell? w _ x0)).trans x0
          replace x1 := (hbel.cell (World.block_lt_of_cell? w _ x1)).trans x1
          replace x2 := (hbel.cell (World.block_lt_of_cell? w _ x2)).trans x2
          replace x3 := (hbel.cell (World.block_lt_of_cell? w _ x3)).trans x3
          replace x4 := (hbel.cell (World.block_lt_of_cell? w _ x4)).trans x4
          replace x5 := (hbel.cell (World.block_lt_of_cell? w _ x5)).trans x5
          replace x6 := (hbel.cell (World.block_lt_of_cell? w _ x6)).trans x6
          replace x7 := (hbel.cell (World.block_lt_of_cell? w _ x7)).trans x7
          clear hbel hCv
          have p0 := eq_true h0
          have p1 := eq_true hlt
          have hk : i.toNat < l.length := by omega
          have hmem : rd_T52 l i ∈ l := by
            have : rd_T52 l i = l[i.toNat] := by unfold rd_T52; simp [List.getD_eq_getElem?_getD, hk]
            rw [this]; exact List.getElem_mem hk
          have hk3 := HKS.out _ hmem
          clear hmem hk
          generalize rd_T52 l i = y at *
          obtain ⟨xb, hxb⟩ : ∃ xb, xb = wr.heap.size := ⟨_, rfl⟩
          have hAL := HSr.out.alloc (.cells #[.int .i64 y.f0, .int .i64 y.f1.f0, .slice A2 y.f1.f1.length c2, .bool y.f1.f2, .bool y.f1.f3, .string y.f1.f4, .bool y.f1.f5, .int .i64 y.f1.f6] 52)
          rw [← hxb] at hAL
          have HAL := Lib.hid hAL
          have HXB := Lib.hid hxb
          have HCK := Lib.hid hCk
          have HCV := Lib.hid hcv
          have hcl := cameOf_length ps key
          have HCL : Hid ((cameOf ps key).length ≤ 1000) := Lib.hid (by omega)
          clear hAL hxb HSr hCk hcv hcl
          by_cases hk1 : y.f0 = 1
          · rw [hk1] at x0 HAL
            clear hk1
            cases hh : hasH ps y.f1.f0 with
            | true =>
              obtain ⟨p, hp, hph⟩ := hasH_some hh
              have HP := Lib.hid hp
              have HPH := Lib.hid hph
              clear hh hp hph
              go_wp2_with fail
              rw [← HXB.out]
              clear HXB x0 x1 x2 x3 x4 x5 x6 x7
              have hAL2 := HAL.out
              rw [← HPH.out] at hAL2 ⊢
              refine (wtDrop_some HP.out hAL2.p2).mono ?_
              clear hAL2
              rintro en w3 ⟨rfl, S3⟩
              have hx1 := (blk8 S3.p3.blk).2.1
              have hxlt := S3.p3.lt
              have S4 := (S3.alloc (.cells #[.int .i64 p.h, p.e, .bool p.f2, .bool p.f3, .string p.f4, .bool p.f5, .int .i64 p.f6] 50)).drop1
              have HCI := Lib.hid (S4.p4.row_int_at rfl)
              have HS4 := Lib.hid S4
              clear S3 S4 HAL
              unfold Pl.wv
              go_wp2_with fail
              clear hx1 hxlt
              refine (mewslaw38_without.calls ((cameOf ps key).length + 1) Av cv (cameOf ps key) p.h _ _ HCI.out HCV.out (without_f (by have := HCL.out; omega))).mono ?_
              rintro en w4 ⟨v7, rfl, hR7, hb7⟩
              have S5 := (HS4.out.p2.drop1.p2.drop1.p2.drop1).row_made hb7 hR7
              rw [cameOf_drop] at S5
              have HS5 := Lib.hid S5.p2
              clear S5 hR7 hb7 HS4 HCI
              have hdl := dropH_length ps p.h
              go_wp2_with fail
              go_roundw
              case rel => exact ⟨⟨i + 1, dropH ps p.h, n, v7⟩, rfl, by simp only; omega, by simp only; omega, by simp only; omega, by simp only; omega, rfl, HS5⟩
              case measure => simp [intOf]; omega
            | false =>
              have HH := Lib.hid hh
              clear hh
              go_wp2_with fail
              rw [← HXB.out]
              clear HXB x0 x1 x2 x3 x4 x5 x6 x7
              refine (wtDrop_none HH.out HAL.out.p2).mono ?_
              rintro en w3 ⟨rfl, S3⟩
              have HS5 := Lib.hid ((S3.alloc (.cells #[.int .i64 0, .slice none 0 0, .bool false, .bool false, .string ⟨#[]⟩, .bool false, .int .i64 0] 50)).drop1.p2.drop1)
              clear S3 HAL
              go_wp2_with fail
              go_roundw
              case rel => exact ⟨⟨i + 1, ps, n, .slice Av (cameOf ps key).length cv⟩, rfl, by simp only; omega, by simp only; omega, by simp only; omega, by simp only; omega, rfl, HS5⟩
              case measure => simp [intOf]; omega
          · by_cases hz : y.f1.f1.length = 0
            · rw [hz] at x2 HAL
              clear hz
              go_wp2_with fail
              rw [← HXB.out]
              clear HXB x0 x1 x2 x3 x4 x5 x6 x7
              refine (wtAdd_none HAL.out).mono ?_
              rintro en w3 ⟨rfl, S3⟩
              have HS5 := Lib.hid S3.drop1
              clear S3 HAL
              go_wp2_with fail
              go_roundw
              case rel => exact ⟨⟨i + 1, ps, n, .slice Av (cameOf ps key).length cv⟩, rfl, by simp only; omega, by simp only; omega, by simp only; omega, by simp only; omega, rfl, HS5⟩
              case measure => simp [intOf]; omega
            · have hz0 : 0 < y.f1.f1.length := by omega
              obtain ⟨ad2, rfl, _⟩ := HCK.out.2.2 hz0
              clear hz
              cases hh : hasH ps y.f1.f0 with
              | true =>
                have HH := Lib.hid hh
                clear hh
                go_wp2_with fail
                rw [← HXB.out]
                clear HXB x0 x1 x2 x3 x4 x5 x6 x7
                refine (wtAdd_old hz0 HH.out HAL.out.p2).mono ?_
                rintro en w3 ⟨rfl, S3⟩
                have HS5 := Lib.hid S3.p2.drop1
                clear S3 HAL
                go_wp2_with fail
                go_roundw
                case rel => exact ⟨⟨i + 1, ps, n, .slice Av (cameOf ps key).length cv⟩, rfl, by simp only; omega, by simp only; omega, by simp only; omega, by simp only; omega, rfl, HS5⟩
                case measure => simp [intOf]; omega
              | false =>
                have HH := Lib.hid hh
                clear hh
                go_wp2_with fail
                rw [← HXB.out]
                clear HXB x0 x1 x2 x3 x4 x5 x6 x7
                have hn1 : n < 1000000 := by omega
                refine (wtAdd_new (n := n) (R := pts xb (.cells #[.int .i64 y.f0, .int .i64 y.f1.f0, .slice (some ad2) y.f1.f1.length c2, .bool y.f1.f2, .bool y.f1.f3, .string y.f1.f4, .bool y.f1.f5, .int .i64 y.f1.f6] 52 (0, 0)) * row 3 1 (.slice Av (cameOf ps key).length cv) (cameOf ps key).length ((cameOf ps key).map (Value.int .i64))) hz0 hk3 (reads_old HCK.out) hn1 HH.out (HAL.out.cong (by ac_rfl))).mono ?_
                rintro en w3 ⟨rfl, g, cap, S3⟩
                obtain ⟨q, hq⟩ : ∃ q : Pl, q = ⟨n + 1, y.f1.f0, y.f1.f1, g, cap, y.f1.f2, y.f1.f3, y.f1.f4, y.f1.f5, y.f1.f6⟩ := ⟨_, rfl⟩
                rw [← hq] at S3
                have hca := cameOf_add ps q key
                have hqh : q.h = y.f1.f0 := by rw [hq]
                have hqk : hasS q.ks key = hasK y.f1.f1 key := by rw [hq]; rfl
                have hcw := Kd.C_below HCK.out S3.p2.old
                have HCW := Lib.hid hcw
                have HS3 := Lib.hid S3
                have b2 := blk8 S3.p3.blk
                rw [hqk] at hca
                clear hq S3 HAL hcw hqk
                obtain ⟨-, x1, x2, -, -, -, -, -, -⟩ := b2
                go_wp2_with fail
                refine (Go.Proofs.Ytddkongfhffajaa.POrderPlays.mewsref12_Has.calls (y.f1.f1.length + 1) (some ad2) c2 y.f1.f1 key (hasK y.f1.f1 key) w3 HCW.out hl2 (has_f (by omega))).mono ?_
                rintro en w4 ⟨rfl, hd⟩
                have HS4 := Lib.hid (drawn_sat HS3.out hd)
                clear HS3 HCW hd x1 x2
                cases hk4 : hasK y.f1.f1 key with
                | false =>
                  rw [hk4] at hca
                  simp only [Bool.false_eq_true, if_false, List.append_nil] at hca
                  have S6 : Sat w w4 (wt r (ps ++ [q]) (n + 1) * (row 3 1 (.slice Av (cameOf ps key).length cv) (cameOf (ps ++ [q]) key).length ((cameOf (ps ++ [q]) key).map (Value.int .i64)) * old w)) := by
                    rw [hca]
                    exact HS4.out.p3.drop1.cong (by ac_rfl)
                  have HS6 := Lib.hid S6
                  clear S6 HS4 hk4 hca
                  go_wp2_with fail
                  go_roundw
                  case rel => exact ⟨⟨i + 1, ps ++ [q], n + 1, .slice Av (cameOf ps key).length cv⟩, rfl, by simp only; omega, by simp only; omega, by simp only; omega, by simp only [List.length_append, List.length_cons, List.length_nil]; omega, rfl, HS6⟩
                  case measure => simp [intOf]; omega
                | true =>
                  rw [hk4, hqh] at hca
                  simp only [if_true] at hca
                  have S7 : Sat w w4 (row 3 1 (.slice Av (cameOf ps key).length cv) (cameOf ps key).length ((cameOf ps key).map (Value.int .i64)) * (pts xb (.cells #[.int .i64 y.f0, .int .i64 y.f1.f0, .slice (some ad2) y.f1.f1.length c2, .bool y.f1.f2, .bool y.f1.f3, .string y.f1.f4, .bool y.f1.f5, .int .i64 y.f1.f6] 52 (0, 0)) * (wt r (ps ++ [q]) (n + 1) * old w))) := HS4.out.cong (by ac_rfl)
                  have x1 := (blk8 S7.p2.blk).2.1
                  have hxlt := S7.p2.lt
                  have S8 := (S7.alloc (.cells #[.int .i64 y.f1.f0] 3)).p2
                  obtain ⟨v', w5, hr, S9⟩ := S8.run_append 48 48 Try.underlying48 intInfo rfl (by decide) ⟨w4.heap.size, 0, none⟩ 1 1 [.int .i64 y.f1.f0] rfl (cell_one_new _ _ _) (by simp [Value.oneCell']) (by have := HCL.out; unfold maxLen; omega) (by have := HCL.out; omega)
                  have S10 : Sat w w5 (wt r (ps ++ [q]) (n + 1) * (row 3 1 v' (cameOf (ps ++ [q]) key).length ((cameOf (ps ++ [q]) key).map (Value.int .i64)) * old w)) := by
                    rw [hca, List.length_append, List.map_append]
                    exact S9.p2.drop1.p2.drop1.cong (by simp only [List.length_cons, List.length_nil, List.map_cons, List.map_nil]; ac_rfl)
                  have HS10 := Lib.hid S10
                  clear S7 S8 S9 S10 HS4 hk4 hca
                  go_wp2_with (at_builtin; refine wpList_append_eq rfl _ _ _ _ rfl rfl rfl hr ?_)
                  go_roundw
                  case rel => exact ⟨⟨i + 1, ps ++ [q], n + 1, v'⟩, rfl, by simp only; omega, by simp only; omega, by simp only; omega, by simp only [List.length_append, List.length_cons, List.length_nil]; omega, rfl, HS10⟩
                  case measure => simp [intOf]; omega
        · have hge : ¬ i < (l.length : Int) := hlt
          clear hlt
          obtain ⟨Av, cv, rfl, hcv, hCv⟩ := HSr.out.p2.row_ints rfl
          clear hCv
          have HCV := Lib.hid hcv
          obtain ⟨K, hK⟩ : ∃ K, K = cameOf ps key := ⟨_, rfl⟩
          have hS := HSr.out
          rw [← hK] at hS
          have hKl : K.length ≤ 1000 := by have := cameOf_length ps key; rw [hK]; omega
          have HS := Lib.hid hS
          have HK0 : Hid (cameOf ps key = K.drop (0 : Int).toNat) := Lib.hid (by rw [hK]; rfl)
          have HCK : Hid (K.length ≤ cv) := Lib.hid (by rw [hK]; exact hcv)
          have hlk : (cameOf ps key).length = K.length := by rw [hK]
          clear hS hK hcv HSr HCV
          go_wp2_with fail
          clear hlk h0 h1 hn hps hge
          go_loopw [71] (fun v71 wr => ∃ q : Int × List Pl, v71 = .int .i64 q.1 ∧ 0 ≤ q.1 ∧ q.1 ≤ K.length ∧ Hid (cameOf q.2 key = K.drop q.1.toNat) ∧ Hid (Sat w wr (wt r q.2 n * (row 3 1 (.slice Av K.length cv) K.length (K.map (Value.int .i64)) * old w)))) (fun v71 _ => K.length - (intOf v71).toNat)
          case atStart => exact ⟨(0, ps), rfl, by simp, by simp, HK0, HS⟩
          case round =>
            clear HS HK0
            obtain ⟨⟨j, ps2⟩, rfl, g0, g1, HKJ, HSr⟩ := hrel
            simp only at g0 g1 HKJ HSr
            by_cases hlt : j < K.length
            · have hj : j.toNat < K.length := by omega
              obtain ⟨adk, e1, hx⟩ := Kd.at_int (HSr.out.p2.row_int_at rfl) j g0 hlt
              cases e1
              have p0 := eq_true g0
              have p1 := eq_true hlt
              obtain ⟨b', kb', hok', -⟩ := HSr.out.wt_open
              have hcq := HKJ.out
              rw [List.drop_eq_getElem_cons hj] at hcq
              obtain ⟨p, hf, hph, hrest⟩ := cameOf_cons hok' hcq
              have hrd : rd K j = p.h := by rw [hph]; unfold rd; simp [List.getD_eq_getElem?_getD, hj]
              rw [hrd] at hx
              rw [← hph] at hrest
              have hpm := (firstK_some hf).1
              have hks3 := (hok'.pos p hpm).2.2.2
              have HF := Lib.hid hf
              have HPM := Lib.hid hpm
              have HHP : Hid (hasH ps2 p.h = true) := Lib.hid (hasH_true hpm)
              have HRE : Hid (cameOf (dropH ps2 p.h) key = K.drop (j.toNat + 1)) := Lib.hid hrest
              clear hok' hcq hf hph hrest hrd hpm HKJ hj
              go_wp2_with fail
              refine (wtFirst_some HF.out HSr.out).mono ?_
              rintro en w3 ⟨q5, hq5, hk5, rfl, S3⟩
              have S4 := (S3.alloc (.cells #[.int .i64 q5.h, q5.e, .bool q5.f2, .bool q5.f3, .string q5.f4, .bool q5.f5, .int .i64 q5.f6] 50))
              obtain ⟨xb, hxb⟩ : ∃ b, b = w3.heap.size := ⟨_, rfl⟩
              rw [hq5, ← hxb] at S4
              have HS4 := Lib.hid S4.p3
              have HXB := Lib.hid hxb
              have HK5 := Lib.hid hk5
              clear S3 S4 HSr hxb hk5 hx
              unfold Pl.wv
              rw [hq5]
              clear hq5
              go_wp2_with fail
              rw [← HXB.out]
              clear HXB
              refine (wtHas p.h HS4.out).mono ?_
              rintro en w4 ⟨rfl, S5⟩
              rw [HHP.out]
              have HS5 := Lib.hid S5
              clear S5 HS4 HHP
              go_wp2_with fail
              refine (wtDrop_some HPM.out HS5.out).mono ?_
              rintro en w5 ⟨rfl, S6⟩
              have S7 := (S6.alloc (.cells #[.int .i64 p.h, p.e, .bool p.f2, .bool p.f3, .string p.f4, .bool p.f5, .int .i64 p.f6] 50))
              have hx1 := (blk7 S6.p3.blk).2.1
              have hxlt := S6.p3.lt
              obtain ⟨Ap, cp, ep, hcp, hCp⟩ := Sat.row_str rfl S7.p3
              injection ep with ea1 ea2 ea3
              subst ea1 ea3
              obtain ⟨Aq, cq, eq, hcq, hCq⟩ := Sat.row_str rfl S7.p5
              injection eq with eb1 eb2 eb3
              subst eb1 eb3
              have HCP := Lib.hid hCp
              have HCQ := Lib.hid hCq
              have HP1 := Lib.hid hcp
              have HQ1 := Lib.hid hcq
              have HS7 := Lib.hid S7
              clear S6 S7 HS5 hCp hCq hcp hcq ea2 eb2
              unfold Pl.wv
              go_wp2_with fail
              refine (Go.Proofs.Ytddkongfhffajaa.POrderPlays.mewsref02_Same.calls (p.ks.length + 1) (some ⟨p.g, 0, none⟩) p.cap p.ks (some ⟨q5.g, 0, none⟩) q5.cap q5.ks true _ HCP.out HP1.out HCQ.out HQ1.out ((same_f _ _ (by omega)).trans (by rw [HK5.out]; simp))).mono ?_
              rintro en w6 ⟨rfl, hd⟩
              have HS8 := Lib.hid (drawn_sat HS7.out hd).p2
              clear HS7 hd HCP HCQ HP1 HQ1 hx1 hxlt
              go_wp2_with fail
              refine (wtHas p.h HS8.out).mono ?_
              rintro en w7 ⟨rfl, S9⟩
              rw [dropH_has]
              have HS9 := Lib.hid S9.p2.drop1.p2.drop1.p2.drop1.p2.drop1
              clear S9 HS8
              go_wp2_with fail
              go_roundw
              case rel => exact ⟨(j + 1, dropH ps2 p.h), rfl, by simp only; omega, by simp only; omega, by simp only; rw [show (j + 1).toNat = j.toNat + 1 from by omega]; exact HRE, HS9⟩
              case measure => simp [intOf]; omega
            · have hge : ¬ j < (K.length : Int) := hlt
              clear hlt
              have hnone : firstK ps2 key = none := cameOf_nil (by rw [HKJ.out, List.drop_of_length_le (by omega)])
              have HN := Lib.hid hnone
              clear hnone
              go_wp2_with fail
              refine (wtFirst_none HN.out HSr.out).mono ?_
              rintro en w3 ⟨rfl, S3⟩
              have HS4 := Lib.hid (S3.alloc (.cells #[.int .i64 0, .slice none 0 0, .bool false, .bool false, .string ⟨#[]⟩, .bool false, .int .i64 0] 50)).drop1
              clear S3 HSr
              go_wp2_with fail
              refine (aliveWait HS4.out).mono ?_
              rintro en w5 ⟨rfl, S5⟩
              have HS5 := Lib.hid S5.drop1.drop1.old1
              clear S5
              go_wp2_with fail
              go_ret
              exact ⟨rfl, HS5.out⟩
end Go.Sl
