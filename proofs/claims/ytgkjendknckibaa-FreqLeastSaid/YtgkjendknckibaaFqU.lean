/-
  The contract of package freq's Touch.
-/
import Derived.Test.YtgkjendknckibaaFqT
namespace Go.Sl
open Go.RowKit Go.Proofs Go.Proofs.YtgkjendknckibaaW.PrintWords
set_option linter.unusedVariables false
set_option linter.unusedSimpArgs false
set_option maxRecDepth 100000
open Go.Proofs.YtgkjendknckibaaW.PrintMore in
attribute [local go_sem] min2_int min_two

/-- The count behind a touch. -/
def upC (c : Int) : Int := if 255 < c + 1 then 255 else c + 1
def touchM (es : List Mk) (key : ByteArray) (now : Int) : List Mk := lessM es key ++ [⟨key, upC (cntOf es key), now⟩]
theorem lessM_key {es : List Mk} {key : ByteArray} : ∀ m ∈ lessM es key, m.k ≠ key := fun m hm => by
  have := (List.mem_filter.1 hm).2
  simpa using this
theorem FOk.touch {es : List Mk} {now : Int} (ho : FOk es now) (key : ByteArray) (hn : now < 1000000) : FOk (touchM es key (now + 1)) (now + 1) where
  ks := by
    unfold touchM
    rw [List.map_append, List.nodup_append]
    refine ⟨(ho.less key).ks, by simp, fun a ha b hb => ?_⟩
    obtain ⟨m, hm, rfl⟩ := List.mem_map.1 ha
    simp only [List.map_cons, List.map_nil, List.mem_singleton] at hb
    subst hb
    exact lessM_key m hm
  ts := by
    unfold touchM
    refine List.pairwise_append.2 ⟨(ho.less key).ts, by simp, fun a ha b hb => ?_⟩
    rw [List.mem_singleton] at hb
    subst hb
    have := ((ho.less key).pos a ha).2.2.2
    simp only; omega
  pos := fun m hm => by
    unfold touchM at hm
    have h0 := ho.n0
    rcases List.mem_append.1 hm with hm | hm
    · have := (ho.less key).pos m hm
      exact ⟨this.1, this.2.1, this.2.2.1, by omega⟩
    · rw [List.mem_singleton] at hm
      subst hm
      have hc : 0 ≤ cntOf es key := by
        unfold cntOf
        cases hf : findM es key with
        | none => simp
        | some m => have := (ho.pos m (findM_some hf).1).1; simp; omega
      refine ⟨?_, ?_, by simp only; omega, by simp⟩ <;> (simp only [upC]; split <;> omega)
  n0 := by have := ho.n0; omega
  n1 := by omega
  len := by
    have := (ho.less key).len
    unfold touchM
    simp only [List.length_append, List.length_cons, List.length_nil]; omega
/-- The rows behind Touch. -/
theorem touch_rows {es : List Mk} {key : ByteArray} {c t : Int} : updR (rowOf (lessM es key)) c (dropK (rowOf (lessM es key) c) key ++ [key]) = rowOf (lessM es key ++ [⟨key, c, t⟩]) := by
  funext n
  have h1 : rowOf (lessM es key ++ [⟨key, c, t⟩]) n = rowOf (lessM es key) n ++ (if c = n then [key] else []) := by
    unfold rowOf
    rw [List.filter_append, List.map_append]
    congr 1
    by_cases e : c = n <;> simp [e]
  have h2 : dropK (rowOf (lessM es key) c) key = rowOf (lessM es key) c := by
    unfold dropK
    refine List.filter_eq_self.2 fun x hx => ?_
    obtain ⟨m, hm, rfl⟩ := List.mem_map.1 hx
    have := lessM_key m (List.mem_filter.1 hm).1
    simpa using this
  rw [h1, h2]
  unfold updR
  by_cases e : n = c
  · subst e; rw [if_pos rfl, if_pos rfl]
  · rw [if_neg e, if_neg (fun h => e h.symm), List.append_nil]
theorem none_rows {es : List Mk} {key : ByteArray} (hf : findM es key = none) (n : Int) : updR (rowOf es) n (dropK (rowOf es n) key) = rowOf (lessM es key) := by
  rw [lessM_none hf]
  funext x
  unfold updR
  by_cases e : x = n
  · subst e
    rw [if_pos rfl]
    unfold dropK
    refine List.filter_eq_self.2 fun y hy => ?_
    obtain ⟨m, hm, rfl⟩ := List.mem_map.1 hy
    have := List.find?_eq_none.1 hf m (List.mem_filter.1 hm).1
    simpa using this
  · rw [if_neg e]
theorem marks_ins {es : List Mk} {key : ByteArray} {c t : Int} : (ins (marksOf es) key (.agg #[.int .i64 c, .int .u64 t])).Perm (marksOf (lessM es key ++ [⟨key, c, t⟩])) := by
  unfold ins
  rw [marks_era]
  unfold marksOf
  rw [List.map_append]
  exact (List.perm_append_singleton _ _).symm
/-- What the book has under a key, and what its row becomes. -/
theorem touch_at {es : List Mk} {now : Int} (ho : FOk es now) (key : ByteArray) : ∃ t, (lk (marksOf es) key).getD (.agg #[.int .i64 0, .int .u64 0]) = .agg #[.int .i64 (cntOf es key), .int .u64 t] ∧
    updR (rowOf es) (cntOf es key) (dropK (rowOf es (cntOf es key)) key) = rowOf (lessM es key) ∧ 0 ≤ cntOf es key ∧ cntOf es key ≤ 255 := by
  cases hf : findM es key with
  | none =>
    have hc : cntOf es key = 0 := by unfold cntOf; rw [hf]; rfl
    exact ⟨0, by rw [marks_none hf, hc]; rfl, none_rows hf _, by omega, by omega⟩
  | some m =>
    have hc : cntOf es key = m.c := by unfold cntOf; rw [hf]; rfl
    have := ho.pos m (findM_some hf).1
    exact ⟨m.t, by rw [marks_some ho.ks hf, hc]; rfl, by rw [hc]; exact drop_rows ho hf, by omega, by omega⟩

theorem bkTouch_nil (key : ByteArray) (w : World) : Calls Try.prog 29 #[.pointer none, .string key] w fun en w' => en = .returned (.int .i64 0) ∧ w' = w := by
  go_enter Try.func29, Try.ntmps29
  go_wp2_with fail
  go_ret
  exact ⟨rfl, rfl⟩
set_option maxHeartbeats 8000000 in
/-- 'Touch'. -/
theorem bkTouch {w0 w : World} {b : Nat} {es : List Mk} {now : Int} {key : ByteArray} {R : HP} (hn : now < 1000000) (S : Sat w0 w (bk b es now * R)) :
    Calls Try.prog 29 #[pt b, .string key] w fun en w' => en = .returned (.int .i64 (upC (cntOf es key))) ∧ Sat w0 w' (bk b (touchM es key (now + 1)) (now + 1) * R) := by
  obtain ⟨mb, rb, hok, S1⟩ := S.bk_open
  have HOK := Lib.hid hok
  have hn0 := hok.n0
  obtain ⟨t, ht, hrow, hc0, hc1⟩ := touch_at hok key
  have HROW := Lib.hid hrow
  obtain ⟨r0, r1, r2, rf⟩ := blk3 S1.blk
  have hl := S1.p2.run_lookup keys_string fmap fsk fzero false key
  rw [if_neg (by decide), ht] at hl
  have hq := feql (some mb)
  obtain ⟨c, hc⟩ : ∃ c, c = cntOf es key := ⟨_, rfl⟩
  have HC := Lib.hid hc
  rw [← hc] at hl hc0 hc1 hrow HROW ⊢
  obtain ⟨xb, hxb⟩ : ∃ xb, xb = w.heap.size := ⟨_, rfl⟩
  have S2 := (S1.alloc (.cells #[.int .i64 c, .int .u64 t] 89)).p2
  rw [← hxb] at S2
  have HS := Lib.hid S2
  have HX := Lib.hid hxb
  clear S S1 S2 hxb hok ht hrow hc
  go_enter Try.func29, Try.ntmps29
  go_upto_region 6 with (fail)
  rw [← HX.out]
  clear r0 r1 r2 rf hl hq
  refine gen_w HS.out ?_
  clear HS HX
  intro w1 S1
  have cs := layCells S1
  have HS1 := Lib.hid S1
  rcases S1.drew.p4.rmap_get c frm fik fozero with ⟨hl, he, S2⟩ | ⟨o, hl, S2⟩
  case' inl =>
    have e1 : updR (rowOf es) c (dropK (rowOf es c) key) = rowOf es := by
      funext x; unfold updR
      by_cases e : x = c
      · subst e; rw [if_pos rfl, he]; rfl
      · rw [if_neg e]
    have HE := Lib.hid e1
    have HS2 := Lib.hid S2.rnone_back
    clear S1 S2 e1 he
    go_region_held3 (fun w' => w'.cell? ⟨b, 0, none⟩ = some (.map (some mb)) ∧ w'.cell? ⟨b, 1, none⟩ = some (.map (some rb)) ∧ w'.cell? ⟨b, 2, none⟩ = some (.int .u64 now) ∧ w'.cell? ⟨xb, 0, none⟩ = some (.int .i64 c) ∧ w'.cell? ⟨xb, 1, none⟩ = some (.int .u64 t))
      (first | exact layCells HS1.out.drew | exact layCells HS1.out)
      ((go_at_call 50; refine (ordDrop_nil _ _).mono ?_; rintro en w' ⟨rfl, rfl⟩))
    have S3 := HS2.out
    rw [← HE.out, HROW.out] at S3
    have HS3 := Lib.hid S3
    clear S3 HS2 HE
  case' inr =>
    have HS2 := Lib.hid S2
    clear S1 S2
    go_region_held3 (fun w' => w'.cell? ⟨b, 0, none⟩ = some (.map (some mb)) ∧ w'.cell? ⟨b, 1, none⟩ = some (.map (some rb)) ∧ w'.cell? ⟨b, 2, none⟩ = some (.int .u64 now) ∧ w'.cell? ⟨xb, 0, none⟩ = some (.int .i64 c) ∧ w'.cell? ⟨xb, 1, none⟩ = some (.int .u64 t))
      (first | exact layCells HS3.out.p3.p4.p2 | exact layCells HS1.out.drew | exact layCells HS1.out)
      ((go_at_call 50; refine (ordDrop HS2.out).mono ?_; rintro en w3 ⟨rfl, S3⟩; have HS3 := Lib.hid S3; clear S3))
    have S3 := HS3.out.rbut_close (g := updR (rowOf es) c (dropK (rowOf es c) key)) (fun n' hne => by unfold updR; rw [if_neg hne]) (by unfold updR; rw [if_pos rfl])
    rw [HROW.out] at S3
    clear HS3
    have HS3 := Lib.hid S3
    clear S3 HS2
  all_goals
    clear cs hl HS1
    go_upto_region 7 with (fail)
    refine gen_w HS3.out ?_
    clear HS3
    intro w5 S5
    obtain ⟨r0, r1, r2, rf⟩ := blk3 S5.p2.blk
    obtain ⟨a0, a1, af⟩ := blk2 S5.p3.blk
    have hwr : IntKind.u64.wrap (now + 1) = now + 1 := by
      rw [show IntKind.u64.wrap (now + 1) = (now + 1) % 18446744073709551616 from by simp [IntKind.wrap, IntKind.bits, IntKind.signed]]; omega
    have HS5 := Lib.hid ((S5.p2.setCell (i := 2) (.int .u64 (now + 1))).p3)
    clear S5
    go_upto_region 8 with (fail)
    clear r0 r1 r2 rf a0 a1 af
    refine gen_w HS5.out ?_
    clear HS5
    intro w6 S6
    obtain ⟨r0, r1, r2, rf⟩ := blk3 S6.p2.blk
    obtain ⟨a0, a1, af⟩ := blk2 S6.blk
    have hw1 : wrap64 (c + 1) = c + 1 := by unfold wrap64; omega
    obtain ⟨u, hu⟩ : ∃ u, u = upC c := ⟨_, rfl⟩
    have hmin : (if (255 : Int) < c + 1 then (255 : Int) else c + 1) = u := by rw [hu]; rfl
    have HU := Lib.hid hu
    have S7 := ((S6.setCell (i := 0) (.int .i64 u)).setCell (i := 1) (.int .u64 (now + 1))).drew
    have HS7 := Lib.hid S7
    clear S6 S7 hu
    go_region
    have S8 : Sat w0 _ (pts b (.cells #[.map (some mb), .map (some rb), .int .u64 (now + 1)] 80 (0, 0)) * (gmap Value.string mb (marksOf es) * (rmap rb (rowOf (lessM es key)) * (pts xb (.cells #[.int .i64 u, .int .u64 (now + 1)] 89 (0, 0)) * R)))) := HS7.out.cong (by ac_rfl)
    have HS8 := Lib.hid S8
    clear S8 HS7
    go_wp2_with fail
    clear r0 r1 r2 rf a0 a1 af hw1 hmin
    refine (lay_calls HS8.out).mono ?_
    rintro en w8 ⟨⟨v, rfl⟩, S9⟩
    obtain ⟨a0, a1, af⟩ := blk2 S9.p4.blk
    rw [touch_rows, gmap_perm marks_ins] at S9
    have hes : lessM es key ++ [⟨key, u, now + 1⟩] = touchM es key (now + 1) := by unfold touchM; rw [HU.out, HC.out]
    rw [hes] at S9
    have S10 := Sat.bk_shut (mb := mb) (rb := rb) (R := R) (HOK.out.touch key hn) (S9.p4.drop1.cong (by ac_rfl))
    have HS10 := Lib.hid S10
    clear S9 S10 HS8 hes
    go_wp2_with fail
    go_ret
    exact ⟨by rw [← HU.out]; rfl, HS10.out⟩
end Go.Sl
