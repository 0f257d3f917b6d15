/-
  The statements of layer 13: the document's Halve.
-/
import Derived.Test.YtgkjendknckibaaLawFq
import Derived.Test.YtgkjendknckibaaRw
namespace Go.Sl
open Go.RowKit Go.Proofs Go.Proofs.YtgkjendknckibaaW.PrintWords Go.Proofs.Ytgkjendknckibaa.PFreq
set_option linter.unusedVariables false
set_option maxRecDepth 100000

def encO (x : One) : List Value := [.string x.f0, .int .i64 x.f1]
theorem flatO : Flat k93 encO where
  len _ := rfl
  K w x := ⟨[.string x.f0], [.int .i64 x.f1], rfl, rfl, rfl⟩
  M w base ok x := ⟨[.string x.f0], [.int .i64 x.f1], rfl, rfl, rfl⟩
  pos := by decide
def halfR (x : One) : One := ⟨x.f0, if 1 < x.f1 then x.f1 / 2 else x.f1⟩
def lessRN (xs : List One) : Nat := (xs.filter fun x => decide (1 < x.f1)).length
theorem lessRN_succ {xs : List One} {i : Nat} (h : i < xs.length) : lessRN (xs.take (i + 1)) = lessRN (xs.take i) + if 1 < xs[i].f1 then 1 else 0 := by
  unfold lessRN
  rw [List.take_succ_eq_append_getElem h, List.filter_append, List.length_append]
  by_cases e : 1 < xs[i].f1 <;> simp [e]
theorem lessRN_le (xs : List One) : lessRN xs ≤ xs.length := List.length_filter_le _ _
def halvedTo (xs : List One) (i : Nat) : List Value := ((xs.take i).map halfR).flatMap encO
theorem halvedTo_succ {xs : List One} {i : Nat} (h : i < xs.length) : halvedTo xs (i + 1) = halvedTo xs i ++ encO (halfR xs[i]) := by
  unfold halvedTo
  rw [List.take_succ_eq_append_getElem h, List.map_append, List.flatMap_append]
  simp
theorem oneInfo : (Try.prog.info? 93).map (fun i => (i.zero, i.size, i.bytes)) = some (some (.agg #[.string ⟨#[]⟩, .int .i64 0]), 2, 24) := by kernel_rfl
set_option maxHeartbeats 8000000 in
theorem rhalve {w : World} {A0 : Option Addr} {c0 : Nat} {xs : List One} (hr : Kd.C k93 w A0 xs.length xs) (hc : xs.length ≤ c0) (hs : xs.length ≤ 1000000) (hpos : ∀ x ∈ xs, 0 ≤ x.f1 ∧ x.f1 ≤ 255) :
    Calls Try.prog 36 #[.slice A0 xs.length c0] w fun en w' => ∃ v, en = .returned (.tuple #[v, .int .i64 (lessRN xs)]) ∧ Kd.R k93 93 w' w.heap.size (fun _ => True) v (xs.map halfR) ∧ Below w.heap.size w w' := by
  have HR := Lib.hid hr
  have HC := Lib.hid hc
  have HP := Lib.hid hpos
  have HSZ := Lib.hid hs
  have HS := Lib.hid ((Sat.start w).row_nil 93 2)
  clear hr hc hpos
  go_enter Try.func36, Try.ntmps36
  go_wp2_with fail
  go_loopw [4, 5, 6] (fun v4 v5 v6 wr => ∃ q : Nat × Value, v6 = .int .i64 q.1 ∧ q.1 ≤ xs.length ∧ v4 = q.2 ∧ v5 = .int .i64 (lessRN (xs.take q.1)) ∧ Hid (Sat w wr (row 93 2 q.2 q.1 (halvedTo xs q.1) * old w))) (fun _ _ v6 _ => xs.length - (RowKit.intOf v6).toNat)
  case atStart => exact ⟨(0, .slice none 0 0), rfl, by simp, rfl, rfl, HS⟩
  case round =>
    clear HS
    obtain ⟨⟨i, v4⟩, rfl, hi, rfl, rfl, HSi⟩ := hrel
    simp only at hi HSi
    by_cases hlt : i < xs.length
    · obtain ⟨ad, e1, hx0, hx1⟩ := at_T93 HR.out (i : Int) (by omega) (by omega)
      cases e1
      rw [Int.toNat_natCast, rd_at hlt] at hx0 hx1
      have hbel := HSi.out.drop1.old1
      replace hx0 := (hbel.cell (World.block_lt_of_cell? w _ hx0)).trans hx0
      replace hx1 := (hbel.cell (World.block_lt_of_cell? w _ hx1)).trans hx1
      clear hbel
      obtain ⟨xb, hxb⟩ : ∃ xb, xb = wr.heap.size := ⟨_, rfl⟩
      have S6 := (HSi.out.alloc (.cells #[.string xs[i].f0, .int .i64 xs[i].f1] 93))
      rw [← hxb] at S6
      have HX := Lib.hid hxb
      have HS6 := Lib.hid S6
      clear S6 hxb
      go_upto_region 7 with (fail)
      rw [← HX.out]
      refine gen_w HS6.out ?_
      clear HS6 HX hx0 hx1
      intro w4 S4
      obtain ⟨x0, x1, fx⟩ := blk2 S4.blk
      have hp := HP.out xs[i] (List.getElem_mem hlt)
      have hc1 : 0 ≤ xs[i].f1 := hp.1
      have hc2 : xs[i].f1 ≤ 255 := hp.2
      clear hp
      have HLS := Lib.hid (lessRN_succ hlt)
      have hls : (lessRN (xs.take i) : Int) ≤ 1000000 := by
        have h1 := lessRN_le (xs.take i)
        have h2 := List.length_take_le i xs
        have := HSZ.out; omega
      obtain ⟨u, hu⟩ : ∃ u, u = (halfR xs[i]).f1 := ⟨_, rfl⟩
      have hen : encO (halfR xs[i]) = [.string xs[i].f0, .int .i64 u] := by rw [hu]; rfl
      have HSU := Lib.hid ((halvedTo_succ hlt).trans (by rw [hen]))
      clear hen
      obtain ⟨L, hL⟩ : ∃ L : Int, L = lessRN (xs.take (i + 1)) := ⟨_, rfl⟩
      have HLL := Lib.hid hL
      by_cases h1 : 1 < xs[i].f1
      case' pos =>
        have d1 : decide (1 < xs[i].f1) = true := decide_eq_true h1
        have ehc : xs[i].f1 / 2 = u := by rw [hu]; unfold halfR; simp only; rw [if_pos h1]
        have hL2 : (lessRN (xs.take i) : Int) + 1 = L := by rw [hL, HLS.out, if_pos h1]; simp
        have HEH := Lib.hid ehc
        have HL2 := Lib.hid hL2
        have S5 := (S4.setCell (i := 1) (.int .i64 (xs[i].f1 / 2)))
        rw [ehc] at S5
        have S5' : Sat w _ (pts xb (.cells #[.string xs[i].f0, .int .i64 u] 93 (0, 0)) * _) := S5
        have HS5 := Lib.hid S5'
        clear S4 S5 S5' ehc h1 hu hL HLS hL2
        generalize hcc : xs[i].f1 = c at *
        go_upto_region 10 with (fail)
        rw [HEH.out, HL2.out]
      case' neg =>
        have d1 : decide (1 < xs[i].f1) = false := decide_eq_false h1
        have ehc : xs[i].f1 = u := by rw [hu]; unfold halfR; simp only; rw [if_neg h1]
        have hL2 : (lessRN (xs.take i) : Int) = L := by rw [hL, HLS.out, if_neg h1]; simp
        have HEH := Lib.hid ehc
        have HL2 := Lib.hid hL2
        have S5 := S4
        rw [ehc] at S5
        have HS5 := Lib.hid S5
        clear S4 S5 ehc h1 hu hL HLS hL2
        generalize hcc : xs[i].f1 = c at *
        go_upto_region 10 with (fail)
        rw [HEH.out, HL2.out]
      all_goals
        clear d1 x0 x1 fx hc1 hc2 hcc HEH HL2
        refine gen_w HS5.out ?_
        clear HS5
        intro w5 S5
        obtain ⟨x0, x1, fx⟩ := blk2 S5.blk
        have S6 := (S5.alloc (.cells #[.string xs[i].f0, .int .i64 u] 93))
        have b0 := S6.blk
        obtain ⟨v', w6, hr, S7⟩ := (S6.p3).run_append 62 62 Try.underlying62 oneInfo rfl (by decide) ⟨w5.heap.size, 0, none⟩ 1 1 [.string xs[i].f0, .int .i64 u] rfl
          (fun j y hj => by rw [Addr.add_lit, Nat.zero_add]; exact cell_of b0 j (by simpa using hj)) (by simp [Value.oneCell']) (by have := HSZ.out; unfold maxLen; omega) (by have := HSZ.out; omega)
        rw [← HSU.out] at S7
        have HS7 := Lib.hid S7.p3.drop1.p2.drop1
        clear S5 S6 S7 b0
        go_wp2_with (at_builtin; refine wpList_append_eq rfl _ _ _ _ rfl rfl rfl hr ?_)
        go_roundw
        case rel => exact ⟨(i + 1, v'), by simp, by simp only; omega, rfl, by rw [HLL.out], HS7⟩
        case measure => simp [RowKit.intOf]; omega
    · have hi2 : i = xs.length := by omega
      subst hi2
      go_wp2_with fail
      go_ret2
      have S8 := HSi.out
      unfold halvedTo at S8
      rw [List.take_length, show xs.length = (xs.map halfR).length by simp] at S8
      obtain ⟨h1, h2⟩ := Sat.row_R flatO S8
      exact ⟨_, by rw [List.take_length]; rfl, h1, h2⟩
end Go.Sl
