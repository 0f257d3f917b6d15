/-
  The contracts of package freq's functions: lay, Touch, Drop.
-/
import Derived.Test.YtgkjendknckibaaFq
import Derived.Test.YtgkjendknckibaaWMore
namespace Go.Sl
open Go.RowKit Go.Proofs Go.Proofs.YtgkjendknckibaaW.PrintWords
set_option linter.unusedVariables false
set_option linter.unusedSimpArgs false
set_option maxRecDepth 100000
open Go.Proofs.YtgkjendknckibaaW.PrintMore in
attribute [local go_sem] min2_int min_two

def updR (f : RF) (n : Int) (l : List ByteArray) : RF := fun x => if x = n then l else f x
theorem foeql (w : World) : (binOp .eql 90 (.pointer none) (.pointer none)).run Try.prog w = .ok (.bool true) w := by kernel_rfl

/-- The cells that the statements read. -/
theorem layCells {w0 w : World} {b xb mb rb : Nat} {now c t : Int} {t1 t2 : TypeId} {Y : HP} (S : Sat w0 w (pts b (.cells #[.map (some mb), .map (some rb), .int .u64 now] t1 (0, 0)) * (pts xb (.cells #[.int .i64 c, .int .u64 t] t2 (0, 0)) * Y))) :
    w.cell? ⟨b, 0, none⟩ = some (.map (some mb)) ∧ w.cell? ⟨b, 1, none⟩ = some (.map (some rb)) ∧ w.cell? ⟨b, 2, none⟩ = some (.int .u64 now) ∧ w.cell? ⟨xb, 0, none⟩ = some (.int .i64 c) ∧ w.cell? ⟨xb, 1, none⟩ = some (.int .u64 t) := by
  obtain ⟨r0, r1, r2, rf⟩ := blk3 S.blk
  obtain ⟨a0, a1, af⟩ := blk2 S.p2.blk
  exact ⟨r0, r1, r2, a0, a1⟩

set_option maxHeartbeats 8000000 in
/-- 'lay': the key goes behind all of its count's row, and has the mark. -/
theorem lay_calls {w0 w : World} {b mb rb : Nat} {now c t : Int} {key : ByteArray} {M : List (ByteArray × Value)} {f : RF} {R : HP}
    (S : Sat w0 w (pts b (.cells #[.map (some mb), .map (some rb), .int .u64 now] 80 (0, 0)) * (gmap Value.string mb M * (rmap rb f * R)))) :
    Calls Try.prog 51 #[pt b, .string key, .agg #[.int .i64 c, .int .u64 t]] w fun en w' => (∃ v, en = .returned v) ∧
      Sat w0 w' (pts b (.cells #[.map (some mb), .map (some rb), .int .u64 now] 80 (0, 0)) * (gmap Value.string mb (ins M key (.agg #[.int .i64 c, .int .u64 t])) * (rmap rb (updR f c (dropK (f c) key ++ [key])) * R))) := by
  obtain ⟨xb, hxb⟩ : ∃ xb, xb = w.heap.size := ⟨_, rfl⟩
  have S1 := (S.alloc (.cells #[.int .i64 c, .int .u64 t] 89))
  rw [← hxb] at S1
  have HS := Lib.hid (S1.p2)
  have HX := Lib.hid hxb
  clear S S1 hxb
  go_enter Try.func51, Try.ntmps51
  go_upto_region 1 with (fail)
  rw [← HX.out]
  refine gen_w HS.out ?_
  clear HS HX
  intro w1 S1
  obtain ⟨r0, r1, r2, rf⟩ := blk3 S1.blk
  obtain ⟨a0, a1, af⟩ := blk2 S1.p2.blk
  have hoff : ∀ n', n' ≠ c → updR f c (dropK (f c) key ++ [key]) n' = f n' := fun n' hne => by unfold updR; rw [if_neg hne]
  have hat : updR f c (dropK (f c) key ++ [key]) c = dropK (f c) key ++ [key] := by unfold updR; rw [if_pos rfl]
  have HOFF := Lib.hid hoff
  have HAT := Lib.hid hat
  clear hoff hat
  have hq := foeql
  rcases S1.drew.p4.rmap_get c frm fik fozero with ⟨hl, hf, S2⟩ | ⟨o, hl, S2⟩
  case' inl =>
    have HFN := Lib.hid hf
    have HS2 := Lib.hid (S2.p3.p3)
    clear S1 S2 hf
    go_region
    clear r0 r1 r2 rf a0 a1 af hl hq
    go_upto_region 2 with (fail)
    refine gen_w HS2.out ?_
    clear HS2
    intro w2 S2
    have cs := layCells S2
    have HS2 := Lib.hid S2
    clear S2
    go_region_held3 (fun w' => w'.cell? ⟨b, 0, none⟩ = some (.map (some mb)) ∧ w'.cell? ⟨b, 1, none⟩ = some (.map (some rb)) ∧ w'.cell? ⟨b, 2, none⟩ = some (.int .u64 now) ∧ w'.cell? ⟨xb, 0, none⟩ = some (.int .i64 c) ∧ w'.cell? ⟨xb, 1, none⟩ = some (.int .u64 t))
      (first | exact layCells HS4.out.p3.p4.p2 | exact layCells HS3.out.p2.p3.p2 | exact layCells HS2.out.drew | exact layCells HS2.out)
      ((go_at_call 64; refine (ordNew_calls HS2.out.drew).mono ?_; rintro en w3 ⟨o, rfl, e, m, S3⟩; have HS3 := Lib.hid S3.ord_shut; obtain ⟨w4, hu, S4⟩ := HS3.out.p4.rnone_ins frm fik o; have HS4 := Lib.hid S4; clear S3 S4))
    clear cs HS2 hu HS3
    have S5 : Sat w0 w4 (ord o (f c) * (rbut rb f c o * (pts b (.cells #[.map (some mb), .map (some rb), .int .u64 now] 80 (0, 0)) * (pts xb (.cells #[.int .i64 c, .int .u64 t] 89 (0, 0)) * (gmap Value.string mb M * R))))) := by
      rw [HFN.out]
      exact HS4.out.cong (by simp only [List.map_nil]; ac_rfl)
    have HS5 := Lib.hid S5
    clear HS4 S5 HFN
  case' inr =>
    have HS5 := Lib.hid S2
    clear S1 S2
    go_region
    clear r0 r1 r2 rf a0 a1 af hl hq
  all_goals
    go_upto_region 3 with (fail)
    refine gen_w HS5.out ?_
    clear HS5
    intro w5 S5
    have cs := layCells S5.p3.p4.p2
    have hl := S5.drew.p2.rbut_lookup frm fik fozero
    have HS5 := Lib.hid S5
    have HS6 := Lib.hid S5.drew
    clear S5
    go_region_held3 (fun w' => w'.cell? ⟨b, 0, none⟩ = some (.map (some mb)) ∧ w'.cell? ⟨b, 1, none⟩ = some (.map (some rb)) ∧ w'.cell? ⟨b, 2, none⟩ = some (.int .u64 now) ∧ w'.cell? ⟨xb, 0, none⟩ = some (.int .i64 c) ∧ w'.cell? ⟨xb, 1, none⟩ = some (.int .u64 t))
      (first | exact layCells HS7.out.p3.p4.p2 | exact layCells HS6.out.p3.p4.p2 | exact layCells HS5.out.p3.p4.p2)
      ((go_at_call 65; refine (ordTouch HS6.out).mono ?_; rintro en w6 ⟨rfl, S7⟩; have HS7 := Lib.hid S7; clear S7))
    clear cs hl HS6 HS5
    go_upto_region 4 with (fail)
    refine gen_w (HS7.out.rbut_close HOFF.out HAT.out) ?_
    clear HS7
    intro w7 S8
    obtain ⟨r0, r1, r2, rf⟩ := blk3 S8.p2.blk
    obtain ⟨a0, a1, af⟩ := blk2 S8.p3.blk
    obtain ⟨w8, hu, S9⟩ := S8.drew.p4.run_mapUpdate keys_string fmap fsk key (.agg #[.int .i64 c, .int .u64 t])
    have HS9 := Lib.hid S9
    clear S8 S9
    go_region
    clear hu r0 r1 r2 rf a0 a1 af
    go_end0
    exact ⟨⟨_, rfl⟩, HS9.out.p4.drop1.cong (by ac_rfl)⟩

theorem row_lessM {es : List Mk} {key : ByteArray} (n : Int) : dropK (rowOf es n) key = rowOf (lessM es key) n := by
  unfold dropK rowOf lessM
  rw [List.filter_map, List.filter_filter, List.filter_filter]
  congr 1
  refine List.filter_congr fun m _ => ?_
  simp only [Function.comp]
  rw [Bool.and_comm]
theorem row_lessM_off {es : List Mk} {key : ByteArray} (n : Int) (h : ∀ m ∈ es, m.k = key → m.c ≠ n) : rowOf (lessM es key) n = rowOf es n := by
  unfold rowOf lessM
  rw [List.filter_filter]
  congr 1
  refine List.filter_congr fun m hm => ?_
  by_cases e : m.k = key
  · have := h m hm e
    simp [this]
  · simp [e]
theorem FOk.same {es : List Mk} {now : Int} (ho : FOk es now) {m m' : Mk} (h : m ∈ es) (h' : m' ∈ es) (e : m'.k = m.k) : m' = m := by
  obtain ⟨i, hi, rfl⟩ := List.getElem_of_mem h
  obtain ⟨j, hj, rfl⟩ := List.getElem_of_mem h'
  have hij : j = i := (List.getElem_inj (xs := es.map (·.k)) (h₀ := by simpa using hj) (h₁ := by simpa using hi) ho.ks).1 (by simpa using e)
  subst hij
  rfl
theorem FOk.less {es : List Mk} {now : Int} (ho : FOk es now) (key : ByteArray) : FOk (lessM es key) now where
  ks := ho.ks.sublist (List.filter_sublist.map _)
  ts := ho.ts.filter _
  pos := fun m hm => ho.pos m (List.mem_filter.1 hm).1
  n0 := ho.n0
  n1 := ho.n1
  len := by
    have := List.length_filter_le (fun m : Mk => !decide (m.k = key)) es
    have := ho.len
    unfold lessM; omega
theorem marks_era {es : List Mk} {key : ByteArray} : era (marksOf es) key = marksOf (lessM es key) := by
  unfold era marksOf lessM
  rw [List.filter_map]
  rfl
theorem lessM_none {es : List Mk} {key : ByteArray} (h : findM es key = none) : lessM es key = es := List.filter_eq_self.2 fun m hm => by
  have := List.find?_eq_none.1 h m hm
  simpa using this
/-- Drop's row: whoever has the key goes from its count's row. -/
theorem drop_rows {es : List Mk} {now : Int} (ho : FOk es now) {key : ByteArray} {m : Mk} (hf : findM es key = some m) : updR (rowOf es) m.c (dropK (rowOf es m.c) key) = rowOf (lessM es key) := by
  obtain ⟨hm, hk⟩ := findM_some hf
  funext n
  unfold updR
  by_cases e : n = m.c
  · subst e; rw [if_pos rfl, row_lessM]
  · rw [if_neg e]
    refine (row_lessM_off n fun m' hm' hk' => ?_).symm
    rw [ho.same hm hm' (hk'.trans hk.symm)]
    exact fun h => e h.symm

set_option maxHeartbeats 8000000 in
/-- 'Drop'. -/
theorem bkDrop_nil (key : ByteArray) (w : World) : Calls Try.prog 33 #[.pointer none, .string key] w fun en w' => en = .returned (.bool false) ∧ w' = w := by
  go_enter Try.func33, Try.ntmps33
  go_wp2_with fail
  refine (bkCount_nil key _).mono ?_
  rintro en w1 ⟨rfl, rfl⟩
  go_wp2_with fail
  go_ret
  exact ⟨rfl, rfl⟩
theorem bkDrop {w0 w : World} {b : Nat} {es : List Mk} {now : Int} {key : ByteArray} {R : HP} (S : Sat w0 w (bk b es now * R)) :
    Calls Try.prog 33 #[pt b, .string key] w fun en w' => en = .returned (.bool (findM es key).isSome) ∧ Sat w0 w' (bk b (lessM es key) now * R) := by
  have HS := Lib.hid S
  obtain ⟨mb, rb, hok, S1⟩ := S.bk_open
  clear S
  cases hf : findM es key with
  | none =>
    have hc : cntOf es key = 0 := by unfold cntOf; rw [hf]; rfl
    have HC := Lib.hid hc
    rw [lessM_none hf]
    clear S1 hok hf hc
    go_enter Try.func33, Try.ntmps33
    go_wp2_with fail
    refine (bkCount HS.out).mono ?_
    rintro en w1 ⟨rfl, rfl⟩
    rw [HC.out]
    go_wp2_with fail
    go_ret
    exact ⟨rfl, HS.out⟩
  | some m =>
    have hc : cntOf es key = m.c := by unfold cntOf; rw [hf]; rfl
    have HC := Lib.hid hc
    obtain ⟨hm, hk⟩ := findM_some hf
    have hc1 : ¬ m.c = 0 := by have := (hok.pos m hm).1; omega
    obtain ⟨r0, r1, r2, rf⟩ := blk3 S1.blk
    obtain ⟨w2, hd, S2⟩ := S1.p2.run_delete keys_string fmap fsk key 0 9
    rw [marks_era] at S2
    obtain ⟨q0, q1, q2, qf⟩ := blk3 S2.p2.blk
    have HD := Lib.hid (drop_rows hok hf)
    have HOK := Lib.hid hok
    have hin : hasK (rowOf es m.c) key = true := hasK_true (List.mem_map.2 ⟨m, List.mem_filter.2 ⟨hm, by simp⟩, hk⟩)
    have HIN := Lib.hid hin
    rcases S2.p3.rmap_get m.c frm fik fozero with ⟨hl, he, _⟩ | ⟨o, hl, S3⟩
    · rw [he] at hin; cases hin
    · have HS3 := Lib.hid S3
      clear S1 S2 S3 hok hf hc hm hk hin
      go_enter Try.func33, Try.ntmps33
      go_wp2_with fail
      refine (bkCount HS.out).mono ?_
      rintro en w1 ⟨rfl, rfl⟩
      rw [HC.out]
      go_wp2_with fail
      refine (ordDrop HS3.out).mono ?_
      rintro en w4 ⟨rfl, S4⟩
      rw [HIN.out]
      have S5 := S4.rbut_close (g := updR (rowOf es) m.c (dropK (rowOf es m.c) key)) (fun n' hne => by unfold updR; rw [if_neg hne]) (by unfold updR; rw [if_pos rfl])
      rw [HD.out] at S5
      have S6 := Sat.bk_shut (mb := mb) (rb := rb) (HOK.out.less key) (S5.cong (by ac_rfl))
      have HS6 := Lib.hid S6
      clear S4 S5 S6
      go_wp2_with fail
      go_ret
      exact ⟨rfl, HS6.out⟩
end Go.Sl
