/-
  All turns meet each key once; package scan's Scan, over tables of values of type int64.
  The contracts of package scan, over tables of values of type int64: Turn.
  Cursors: a number read from its other end, in plain words.
  Cursors: a number of 16 bits read from its other end: reckoned once for each.
  The contracts of package dict's functions, at values of type int64: Size, Toward, Chain.
  One row appended to another. Over any program.
-/
import Derived.Test.YteakblblpiihpaaMgA
import Derived.Test.YteakblblpiihpaaPZsx4
import Derived.KernelRfl
import Derived.Deep.DeepCutAuto
/-! ### Ap -/
namespace Go.Sl
open Go.RowKit
set_option linter.unusedVariables false
set_option linter.unusedSimpArgs false
section
variable {w0 w : World} {e n m : Nat} {v v2 : Value} {xs ys : List Value} {R : HP} {P : Program}
theorem run_append_nil {t : TypeId} {i : TypeInfo} (ty : TypeId) (ht : P.underlying t = some (.slice e)) (hi : P.info? e = some i) {A : Option Addr} {n c c2 : Nat} (hn : n ≤ c) (w : World) :
    (Builtin.append_ #[t, t] ty #[.slice A n c, .slice none 0 c2]).run P w = .ok (.slice A n c) w := by
  cases A <;> simp [Builtin.append_, run_underlying ht, sizeOf, typeInfo, hi, Builtin.lenOf, Builtin.firstCells, storeCells, Result.andThen, hn]
/-- 'append(v, nothing...)'. -/
theorem Sat.run_append_zero (S : Sat w0 w (row e 1 v n xs * R)) (t ty : TypeId) {z : Value} {bytes : Nat} (ht : P.underlying t = some (.slice e)) (hinfo : (P.info? e).map (fun i => (i.zero, i.size, i.bytes)) = some (some z, 1, bytes))
    (hzs : z.cells.size = 1) (h63 : n ≤ maxLen) (hbytes : n * bytes ≤ 140737488355328) (A : Option Addr) (c : Nat) :
    ∃ v' w', (Builtin.append_ #[t, t] ty #[v, .slice A 0 c]).run P w = .ok v' w' ∧ Sat w0 w' (row e 1 v' n xs * R) := by
  cases A with
  | none =>
    obtain ⟨i, hi, _⟩ := info_parts hinfo
    obtain ⟨_, h'⟩ := S.row_open
    rcases h' with ⟨rfl, rfl, rfl, _⟩ | ⟨g, cap, cur, rfl, hn, hm, hs, htk, S2⟩
    · exact ⟨_, w, run_append_nil ty ht hi (Nat.le_refl _) w, S⟩
    · exact ⟨_, w, run_append_nil ty ht hi hn w, S⟩
  | some a =>
    obtain ⟨v', w', hr, S'⟩ := S.run_append t ty ht hinfo hzs (by decide) a 0 c [] (by simp) (fun j u hj => by simp at hj) (by simp) (by omega) (by rw [Nat.add_zero]; exact hbytes)
    exact ⟨v', w', hr, by simpa using S'⟩
/-- 'append(v, v2...)', both owned. -/
theorem Sat.run_append_row (S : Sat w0 w (row e 1 v n xs * (row e 1 v2 m ys * R))) (t ty : TypeId) {z : Value} {bytes : Nat} (ht : P.underlying t = some (.slice e)) (hinfo : (P.info? e).map (fun i => (i.zero, i.size, i.bytes)) = some (some z, 1, bytes))
    (hzs : z.cells.size = 1) (h1 : ∀ u ∈ ys, u.oneCell' = true) (h63 : n + m ≤ maxLen) (hbytes : (n + m) * bytes ≤ 140737488355328) :
    ∃ v' w', (Builtin.append_ #[t, t] ty #[v, v2]).run P w = .ok v' w' ∧ Sat w0 w' (row e 1 v' (n + m) (xs ++ ys) * (row e 1 v2 m ys * R)) := by
  obtain ⟨hl, h⟩ := S.p2.row_open
  rcases h with ⟨rfl, rfl, rfl, _⟩ | ⟨g, cap, cur, rfl, hn, hm, hs, htk, S2⟩
  · obtain ⟨i, hi, _⟩ := info_parts hinfo
    obtain ⟨_, h'⟩ := S.row_open
    rcases h' with ⟨rfl, rfl, rfl, _⟩ | ⟨g, cap, cur, rfl, hn, hm, hs, htk, S2⟩
    · exact ⟨_, w, run_append_nil ty ht hi (Nat.le_refl _) w, by simpa using S⟩
    · exact ⟨_, w, run_append_nil ty ht hi hn w, by simpa using S⟩
  · exact S.run_append t ty ht hinfo hzs (by decide) ⟨g, 0, none⟩ m cap ys hl (fun j u hj => by
      obtain ⟨g', e1, hc⟩ := S.p2.row_cells j u hj
      injection e1 with e1
      injection e1 with e1
      subst e1
      rw [Addr.add_lit, Nat.zero_add]
      exact hc) h1 h63 hbytes
end
end Go.Sl
/-! ### DtI648 -/
namespace Go.Sl.DI64
open Go.RowKit Go.Proofs Go.Sl
set_option linter.unusedVariables false
set_option linter.unusedSimpArgs false
set_option maxRecDepth 100000

abbrev rK (v : Value) (l : List ByteArray) : HP := row 9 1 v l.length (l.map Value.string)
theorem ksInfo : (Try.prog.info? 9).map (fun i => (i.zero, i.size, i.bytes)) = some (some (.string ⟨#[]⟩), 1, 16) := by kernel_rfl
/-- 'append(v, a text)'. -/
theorem rK_append {w0 w : World} {v : Value} {l : List ByteArray} {k : ByteArray} {R : HP} (hl : l.length ≤ 1000000000000) (S : Sat w0 w (rK v l * R)) (g c : Nat) (h0 : w.cell? ⟨g, 0, none⟩ = some (.string k)) :
    ∃ v' w', (Builtin.append_ #[42, 42] 42 #[v, .slice (some ⟨g, 0, none⟩) 1 c]).run Try.prog w = .ok v' w' ∧ Sat w0 w' (rK v' (l ++ [k]) * R) := by
  obtain ⟨v', w', hr, S'⟩ := S.run_append 42 42 Try.underlying42 ksInfo rfl (by decide) ⟨g, 0, none⟩ 1 c [.string k] rfl (fun j u hj => by
    match j, hj with
    | 0, hj => simp only [List.getElem?_cons_zero, Option.some.injEq] at hj; subst hj; exact h0
    | j + 1, hj => simp at hj) (by simp [Value.oneCell']) (by unfold maxLen; omega) (by omega)
  exact ⟨v', w', hr, S'.cong (by simp [rK])⟩
theorem tSize {w0 w : World} {t n : Nat} {seed : Int} {d : DS} {R : HP} (S : Sat w0 w (tabN t seed d n * R)) :
    Calls Try.prog 91 #[pt t] w fun en w' => en = .returned (.int .i64 d.s) ∧ w = w' := by
  obtain ⟨a0, a1, a2, a6, a7, -, -⟩ := tabN_cells S
  have HS := Lib.hid S
  clear S
  go_enter Try.func91, Try.ntmps91
  go_wp2_with fail
  refine (tReady HS.out).mono ?_
  rintro en w' ⟨rfl, rfl⟩
  go_wp2_with fail
  go_ret
  exact ⟨rfl, rfl⟩
theorem tToward1 {w0 w : World} {t s g n : Nat} {seed : Int} {c : List (List DN)} {R : HP} (S : Sat w0 w (tab1 t seed s g c n * R)) :
    Calls Try.prog 92 #[pt t] w fun en w' => en = .returned (.int .i64 (-1)) ∧ w = w' := by
  obtain ⟨a0, a1, a2, a3, a4, a5, a6, a7, -⟩ := cells8 (S.cong (by unfold tab1; exact sep_assoc _ _ _)).blk
  clear S
  go_enter Try.func92, Try.ntmps92
  go_wp2_with fail
  go_ret
  exact ⟨rfl, rfl⟩
theorem tToward2 {w0 w : World} {t s g n : Nat} {seed : Int} {c : List (List DN)} {e : DS2} {R : HP} (S : Sat w0 w (tab2 t seed s g c e n * R)) :
    Calls Try.prog 92 #[pt t] w fun en w' => en = .returned (.int .i64 e.s) ∧ w = w' := by
  obtain ⟨a0, a1, a2, a3, a4, a5, a6, a7, -⟩ := cells8 (S.cong (by unfold tab2; exact sep_assoc _ _ _)).blk
  clear S
  go_enter Try.func92, Try.ntmps92
  go_wp2_with fail
  go_ret
  exact ⟨rfl, rfl⟩
theorem hd0_ptr (ch : List DN) : ∃ q, hd0 ch = .pointer q := by cases ch <;> exact ⟨_, rfl⟩
set_option maxHeartbeats 4000000 in
/-- The walk down a chain, out of the place's first pointer. -/
theorem tChainG {w0 w : World} {t p g s : Nat} {c : List (List DN)} {ch : List DN} {X R : Sl.HP} (hp : p < c.length) (hch : c[p] = ch) (hb : ch.length ≤ 1000000000000)
    (hre : ∀ w', Sat w0 w' (plc TN TP g c * (X * R)) → Calls Try.prog 67 #[pt t] w' fun en w'' => en = .returned (.bool true) ∧ w' = w'')
    (hc : ∀ w', Sat w0 w' (plc TN TP g c * (X * R)) → w'.cell? ⟨t, 1, none⟩ = some (.int .i64 s) ∧ w'.cell? ⟨t, 2, none⟩ = some (.slice (some ⟨g, 0, none⟩) c.length c.length)) (S : Sat w0 w (plc TN TP g c * (X * R))) :
    Calls Try.prog 94 #[pt t, .bool true, .int .i64 p] w fun en w' => ∃ u, en = .returned u ∧ Sat w0 w' (rK u (ch.map (·.k)) * (plc TN TP g c * (X * R))) := by
  obtain ⟨a1, a2⟩ := hc w S
  have hpi : (p : Int) < (c.length : Int) := by omega
  have hd1 : decide ((p : Int) < 0) = false := by simp
  have hd2 : decide ((c.length : Int) ≤ (p : Int)) = false := by simp; omega
  have hd3 : decide (c.length ≤ p) = false := by simp; omega
  have HPL := Lib.hid hp
  have HCH := Lib.hid hch
  have HB := Lib.hid hb
  have HC := Lib.hid hc
  have HRE := Lib.hid (hre w S)
  have HS := Lib.hid S
  clear S hb hch hc hre
  go_enter Try.func94, Try.ntmps94
  go_wp2_with fail
  refine HRE.out.mono ?_
  rintro en w' ⟨rfl, rfl⟩
  obtain ⟨b, hbb⟩ : ∃ b, b = w.heap.size := ⟨_, rfl⟩
  have S1 := HS.out.alloc (.cells #[.int .i64 s, .slice (some ⟨g, 0, none⟩) c.length c.length] 116)
  rw [← hbb] at S1
  have HS1 := Lib.hid S1
  have HBB := Lib.hid hbb
  clear S1 hbb HS HRE
  go_upto_region 5 with (fail)
  rw [← HBB.out]
  clear a1 a2
  refine gen_w HS1.out ?_
  clear HS1 HBB HC
  intro w2 S2
  obtain ⟨b0, b1, -⟩ := blk2 S2.blk
  obtain ⟨l1, -, -⟩ := S2.p2.plc_lnk (pre := []) hp HCH.out
  have HS2 := Lib.hid (S2.drop1)
  clear S2
  have l1' : w2.cell? ⟨g, p, none⟩ = some (hd0 ch) := l1
  obtain ⟨q, hq⟩ := hd0_ptr ch
  rw [hq] at l1'
  have HQ := Lib.hid hq
  have HS3 : Hid (Sat w0 w2 (rK (.slice none 0 0) [] * (plc TN TP g c * (X * R)))) := Lib.hid (HS2.out.row_nil _ _)
  clear l1 hq HS2
  go_wp2_with fail
  clear b0 b1 l1'
  go_loopg [7, 9] ch.length (fun kq v7 v9 wr => ∃ (pre post : List DN) (u : Option Addr) (c7 : Nat), v7 = .slice u pre.length c7 ∧ v9 = hd0 post ∧ Hid (ch = pre ++ post ∧ kq = post.length) ∧ Hid (Sat w0 wr (rK (.slice u pre.length c7) (pre.map (·.k)) * (plc TN TP g c * (X * R)))))
  case atStart => exact ⟨[], ch, none, 0, rfl, HQ.out.symm, Lib.hid ⟨rfl, rfl⟩, HS3⟩
  case round =>
    clear HS3
    obtain ⟨pre, post, u, c7, rfl, rfl, HI, HSr⟩ := hrel
    cases post with
    | nil =>
      have hfin : ch = pre := by have := HI.out.1; simpa using this
      have HFIN := Lib.hid hfin
      clear hfin
      rw [show hd0 ([] : List DN) = Value.pointer none from rfl]
      go_wp2_with fail
      go_ret
      exact ⟨_, rfl, by rw [HFIN.out]; exact HSr.out⟩
    | cons x xs =>
      rw [show hd0 (x :: xs) = pt x.b from rfl]
      obtain ⟨n0, n1, n2, -⟩ := (HSr.out.p2).plc_node (pre := pre) hp (HCH.out.trans HI.out.1)
      obtain ⟨q2, hq2⟩ := hd0_ptr xs
      rw [hq2] at n2
      have HQ2 := Lib.hid hq2
      have hlen : pre.length + 1 ≤ ch.length := by have := congrArg List.length HI.out.1; simp at this; omega
      have S4 := HSr.out.alloc (.cells #[.string x.k] 9)
      have k0 := cell_of S4.blk 0 rfl
      obtain ⟨v', w', hr, S5⟩ := rK_append (l := pre.map (·.k)) (k := x.k) (by rw [List.length_map]; have := HB.out; omega) S4.p2 wr.heap.size 1 k0
      have hv' : ∃ u' c', v' = .slice u' (pre ++ [x]).length c' := by
        obtain ⟨_, h⟩ := S5.row_open
        rcases h with ⟨e1, e2, _⟩ | ⟨g', cap, cur, e1, _⟩
        · simp at e2
        · exact ⟨some ⟨g', 0, none⟩, cap, by rw [e1]; simp⟩
      obtain ⟨u', c', rfl⟩ := hv'
      have HS5 : Hid (Sat w0 w' (rK (.slice u' (pre ++ [x]).length c') ((pre ++ [x]).map (·.k)) * (plc TN TP g c * (X * R)))) := Lib.hid ((S5.p2.drop1).cong (by simp [rK]))
      have HLN := Lib.hid hlen
      clear S4 S5 k0 hq2 hlen
      go_upto_region 11 with (at_builtin; refine wpList_append_eq rfl _ _ _ _ rfl rfl rfl hr ?_)
      clear hr n0 n1 n2
      obtain ⟨n0, n1, n2, -⟩ := (HS5.out.p2).plc_node (pre := pre) hp (HCH.out.trans HI.out.1)
      rw [HQ2.out] at n2
      go_wp2_with fail
      go_roundg xs.length
      case measure => have := HI.out.2; simp at this; omega
      case rel => exact ⟨pre ++ [x], xs, u', c', by simp, HQ2.out.symm, Lib.hid ⟨by rw [HI.out.1]; simp, rfl⟩, HS5⟩
set_option maxHeartbeats 4000000 in
/-- The like, of the new places. -/
theorem tChainH {w0 w : World} {t p g s g0 n0 s0 : Nat} {c : List (List DN)} {ch : List DN} {X R : Sl.HP} (hp : p < c.length) (hch : c[p] = ch) (hb : ch.length ≤ 1000000000000)
    (hre : ∀ w', Sat w0 w' (plc TN TP g c * (X * R)) → Calls Try.prog 67 #[pt t] w' fun en w'' => en = .returned (.bool true) ∧ w' = w'')
    (hc : ∀ w', Sat w0 w' (plc TN TP g c * (X * R)) → (w'.cell? ⟨t, 1, none⟩ = some (.int .i64 s0) ∧ w'.cell? ⟨t, 2, none⟩ = some (.slice (some ⟨g0, 0, none⟩) n0 n0)) ∧ w'.cell? ⟨t, 3, none⟩ = some (.int .i64 s) ∧ w'.cell? ⟨t, 4, none⟩ = some (.slice (some ⟨g, 0, none⟩) c.length c.length) ∧ w'.cell? ⟨t, 6, none⟩ = some (.bool true)) (S : Sat w0 w (plc TN TP g c * (X * R))) :
    Calls Try.prog 94 #[pt t, .bool false, .int .i64 p] w fun en w' => ∃ u, en = .returned u ∧ Sat w0 w' (rK u (ch.map (·.k)) * (plc TN TP g c * (X * R))) := by
  obtain ⟨⟨a1, a2⟩, a3, a4, a6⟩ := hc w S
  have hpi : (p : Int) < (c.length : Int) := by omega
  have hd1 : decide ((p : Int) < 0) = false := by simp
  have hd2 : decide ((c.length : Int) ≤ (p : Int)) = false := by simp; omega
  have hd3 : decide (c.length ≤ p) = false := by simp; omega
  have HPL := Lib.hid hp
  have HCH := Lib.hid hch
  have HB := Lib.hid hb
  have HC := Lib.hid hc
  have HRE := Lib.hid (hre w S)
  have HS := Lib.hid S
  clear S hb hch hc hre
  go_enter Try.func94, Try.ntmps94
  go_wp2_with fail
  refine HRE.out.mono ?_
  rintro en w' ⟨rfl, rfl⟩
  obtain ⟨b, hbb⟩ : ∃ b, b = w.heap.size := ⟨_, rfl⟩
  have S1 := HS.out.alloc (.cells #[.int .i64 s0, .slice (some ⟨g0, 0, none⟩) n0 n0] 116)
  rw [← hbb] at S1
  have HS1 := Lib.hid S1
  have HBB := Lib.hid hbb
  clear S1 hbb HS HRE
  go_upto_region 5 with (fail)
  rw [← HBB.out]
  clear a1 a2 a3 a4 a6
  refine gen_w HS1.out ?_
  clear HS1 HBB
  intro wx Sx
  obtain ⟨-, a3, a4, a6⟩ := HC.out wx Sx.drop1
  obtain ⟨b0, b1, bf⟩ := blk2 Sx.blk
  have Sy := (Sx.setCell (i := 0) (.int .i64 s)).setCell (i := 1) (.slice (some ⟨g, 0, none⟩) c.length c.length)
  have HSy : Hid (Sat w0 _ (pts b (.cells #[.int .i64 s, .slice (some ⟨g, 0, none⟩) c.length c.length] 116 (0, 0)) * (plc TN TP g c * (X * R)))) := Lib.hid Sy
  clear Sx Sy HC
  go_upto_region 7 with (fail)
  clear b0 b1 bf a3 a4 a6
  refine gen_w HSy.out ?_
  clear HSy
  intro w2 S2
  obtain ⟨b0, b1, -⟩ := blk2 S2.blk
  obtain ⟨l1, -, -⟩ := S2.p2.plc_lnk (pre := []) hp HCH.out
  have HS2 := Lib.hid (S2.drop1)
  clear S2
  have l1' : w2.cell? ⟨g, p, none⟩ = some (hd0 ch) := l1
  obtain ⟨q, hq⟩ := hd0_ptr ch
  rw [hq] at l1'
  have HQ := Lib.hid hq
  have HS3 : Hid (Sat w0 w2 (rK (.slice none 0 0) [] * (plc TN TP g c * (X * R)))) := Lib.hid (HS2.out.row_nil _ _)
  clear l1 hq HS2
  go_wp2_with fail
  clear b0 b1 l1'
  go_loopg [7, 9] ch.length (fun kq v7 v9 wr => ∃ (pre post : List DN) (u : Option Addr) (c7 : Nat), v7 = .slice u pre.length c7 ∧ v9 = hd0 post ∧ Hid (ch = pre ++ post ∧ kq = post.length) ∧ Hid (Sat w0 wr (rK (.slice u pre.length c7) (pre.map (·.k)) * (plc TN TP g c * (X * R)))))
  case atStart => exact ⟨[], ch, none, 0, rfl, HQ.out.symm, Lib.hid ⟨rfl, rfl⟩, HS3⟩
  case round =>
    clear HS3
    obtain ⟨pre, post, u, c7, rfl, rfl, HI, HSr⟩ := hrel
    cases post with
    | nil =>
      have hfin : ch = pre := by have := HI.out.1; simpa using this
      have HFIN := Lib.hid hfin
      clear hfin
      rw [show hd0 ([] : List DN) = Value.pointer none from rfl]
      go_wp2_with fail
      go_ret
      exact ⟨_, rfl, by rw [HFIN.out]; exact HSr.out⟩
    | cons x xs =>
      rw [show hd0 (x :: xs) = pt x.b from rfl]
      obtain ⟨n0, n1, n2, -⟩ := (HSr.out.p2).plc_node (pre := pre) hp (HCH.out.trans HI.out.1)
      obtain ⟨q2, hq2⟩ := hd0_ptr xs
      rw [hq2] at n2
      have HQ2 := Lib.hid hq2
      have hlen : pre.length + 1 ≤ ch.length := by have := congrArg List.length HI.out.1; simp at this; omega
      have S4 := HSr.out.alloc (.cells #[.string x.k] 9)
      have k0 := cell_of S4.blk 0 rfl
      obtain ⟨v', w', hr, S5⟩ := rK_append (l := pre.map (·.k)) (k := x.k) (by rw [List.length_map]; have := HB.out; omega) S4.p2 wr.heap.size 1 k0
      have hv' : ∃ u' c', v' = .slice u' (pre ++ [x]).length c' := by
        obtain ⟨_, h⟩ := S5.row_open
        rcases h with ⟨e1, e2, _⟩ | ⟨g', cap, cur, e1, _⟩
        · simp at e2
        · exact ⟨some ⟨g', 0, none⟩, cap, by rw [e1]; simp⟩
      obtain ⟨u', c', rfl⟩ := hv'
      have HS5 : Hid (Sat w0 w' (rK (.slice u' (pre ++ [x]).length c') ((pre ++ [x]).map (·.k)) * (plc TN TP g c * (X * R)))) := Lib.hid ((S5.p2.drop1).cong (by simp [rK]))
      have HLN := Lib.hid hlen
      clear S4 S5 k0 hq2 hlen
      go_upto_region 11 with (at_builtin; refine wpList_append_eq rfl _ _ _ _ rfl rfl rfl hr ?_)
      clear hr n0 n1 n2
      obtain ⟨n0, n1, n2, -⟩ := (HS5.out.p2).plc_node (pre := pre) hp (HCH.out.trans HI.out.1)
      rw [HQ2.out] at n2
      go_wp2_with fail
      go_roundg xs.length
      case measure => have := HI.out.2; simp at this; omega
      case rel => exact ⟨pre ++ [x], xs, u', c', by simp, HQ2.out.symm, Lib.hid ⟨by rw [HI.out.1]; simp, rfl⟩, HS5⟩
theorem tChain0 {w0 w : World} {t n p : Nat} {seed : Int} {d : DS} {R : Sl.HP} (hp : p < d.c.length) (hb : d.nodes.length ≤ 1000000000000) (S : Sat w0 w (tabN t seed d n * R)) :
    Calls Try.prog 94 #[pt t, .bool true, .int .i64 p] w fun en w' => ∃ u, en = .returned u ∧ Sat w0 w' (rK u (d.c[p].map (·.k)) * (tabN t seed d n * R)) := by
  obtain ⟨X, hX⟩ := tabN_half0 t seed d n
  have e1 : tabN t seed d n = plc TN TP d.g d.c * X := hX d.c rfl
  have e2 : ∀ R : Sl.HP, tabN t seed d n * R = plc TN TP d.g d.c * (X * R) := fun R => by rw [e1, sep_assoc]
  have hle : d.c[p].length ≤ d.nodes.length := by
    have := (flatten_at hp).length_eq
    unfold DS.nodes
    rw [List.length_append, this, List.length_append]
    omega
  rw [e2 R] at S ⊢
  refine (tChainG (s := d.s) hp rfl (by omega) (fun w' S' => by rw [← e2 R] at S'; exact tReady S') (fun w' S' => by
    rw [← e2 R] at S'
    obtain ⟨a0, a1, a2, _⟩ := tabN_cells S'
    exact ⟨a1, a2⟩) S).mono fun _ _ h => h
theorem tChain1 {w0 w : World} {t n p : Nat} {seed : Int} {d : DS} {e : DS2} {R : Sl.HP} (he : d.sec = some e) (hp : p < e.c.length) (hb : d.nodes.length ≤ 1000000000000) (S : Sat w0 w (tabN t seed d n * R)) :
    Calls Try.prog 94 #[pt t, .bool false, .int .i64 p] w fun en w' => ∃ u, en = .returned u ∧ Sat w0 w' (rK u (e.c[p].map (·.k)) * (tabN t seed d n * R)) := by
  obtain ⟨s, g, c, sec⟩ := d
  simp only at he
  subst he
  obtain ⟨X, hX⟩ := tabN_half1 t seed ⟨s, g, c, some e⟩ n rfl
  have e1 : tabN t seed ⟨s, g, c, some e⟩ n = plc TN TP e.g e.c * X := hX e.c rfl
  have e2 : ∀ R : Sl.HP, tabN t seed ⟨s, g, c, some e⟩ n * R = plc TN TP e.g e.c * (X * R) := fun R => by rw [e1, sep_assoc]
  have hle : e.c[p].length ≤ (DS.nodes ⟨s, g, c, some e⟩).length := by
    have := (flatten_at hp).length_eq
    show _ ≤ (c.flatten ++ e.c.flatten).length
    rw [List.length_append, this, List.length_append]
    omega
  rw [e2 R] at S ⊢
  refine (tChainH (s := e.s) (s0 := s) (g0 := g) (n0 := c.length) hp rfl (by omega) (fun w' S' => by rw [← e2 R] at S'; exact tReady S') (fun w' S' => by
    rw [← e2 R] at S'
    obtain ⟨a0, a1, a2, a3, a4, a5, a6, a7⟩ := tab2_open (e := e) S'
    exact ⟨⟨a1, a2⟩, a3, a4, a6⟩) S).mono fun _ _ h => h
end Go.Sl.DI64
/-! ### CurT -/
namespace Go.Sl
open Go.RowKit Go.Proofs Go.Proofs.YteakblblpiihpaaW.PrintWords Go.Proofs.Yteakblblpiihpaa.PZs
set_option linter.unusedVariables false
set_option linter.unusedSimpArgs false
set_option maxRecDepth 100000

/-- The lowest b bits, from the other end. -/
def rev : Nat → Nat → Nat
  | 0, _ => 0
  | b + 1, t => (t % 2) * 2 ^ b + rev b (t / 2)
theorem rev_lt : ∀ b t, rev b t < 2 ^ b
  | 0, t => by simp [rev]
  | b + 1, t => by
    have := rev_lt b (t / 2)
    have h2 : t % 2 < 2 := Nat.mod_lt _ (by decide)
    rw [rev, Nat.pow_succ]
    rcases (by omega : t % 2 = 0 ∨ t % 2 = 1) with h | h <;> rw [h] <;> omega
/-- All of n numbers, two halves at a time. -/
def allB (p : Nat → Bool) : Nat → Nat → Bool
  | 0, a => p a
  | k + 1, a => allB p k a && allB p k (a + 2 ^ k)
theorem allB_spec {p : Nat → Bool} : ∀ {k a : Nat}, allB p k a = true → ∀ t, a ≤ t → t < a + 2 ^ k → p t = true
  | 0, a, h, t, h1, h2 => by
    have : t = a := by simp at h2; omega
    rw [this]; exact h
  | k + 1, a, h, t, h1, h2 => by
    rw [allB, Bool.and_eq_true] at h
    rw [Nat.pow_succ] at h2
    by_cases e : t < a + 2 ^ k
    · exact allB_spec h.1 t h1 e
    · exact allB_spec h.2 t (by omega) (by omega)
/-- Neighbours (runs of k bits) change places. -/
def sw (m k x : Nat) : Nat := ((x / 2 ^ k) &&& m) ||| (((x &&& m) * 2 ^ k) % 2 ^ 64)
def rev64N (x : Nat) : Nat := (fun z => (z / 2 ^ 32) ||| (z * 2 ^ 32 % 2 ^ 64)) (sw 281470681808895 16 (sw 71777214294589695 8 (sw 1085102592571150095 4 (sw 3689348814741910323 2 (sw 6148914691236517205 1 x)))))
def rv8 (t : Nat) : Nat := (fun b => ((b / 16) &&& 15) ||| ((b &&& 15) * 16)) ((fun a => ((a / 4) &&& 51) ||| ((a &&& 51) * 4)) (((t / 2) &&& 85) ||| ((t &&& 85) * 2)))
theorem rev64_all : allB (fun t => rev64N t == (rv8 (t % 256) * 256 + rv8 (t / 256)) * 281474976710656) 16 0 = true := by decide +kernel
theorem rv8_all : allB (fun t => rv8 t == rev 8 t) 8 0 = true := by decide +kernel
end Go.Sl
/-! ### Cur -/
namespace Go.Sl
open Go.RowKit Go.Proofs Go.Proofs.YteakblblpiihpaaW.PrintWords Go.Proofs.Yteakblblpiihpaa.PZs
set_option linter.unusedVariables false
set_option linter.unusedSimpArgs false
set_option maxRecDepth 100000

theorem rev_zero : ∀ b, rev b 0 = 0
  | 0 => rfl
  | b + 1 => by rw [rev, Nat.zero_mod, Nat.zero_div, rev_zero b]; simp
theorem rev_add : ∀ (a b t : Nat), rev (a + b) t = rev a t * 2 ^ b + rev b (t / 2 ^ a)
  | 0, b, t => by simp [rev]
  | a + 1, b, t => by
    rw [show a + 1 + b = a + b + 1 by omega, rev, rev, rev_add a b (t / 2), Nat.div_div_eq_div_mul, Nat.pow_succ, Nat.mul_comm (2 ^ a) 2, Nat.pow_add, Nat.add_mul, Nat.mul_assoc]
    omega
theorem rev_mod : ∀ (b t : Nat), rev b (t % 2 ^ b) = rev b t
  | 0, t => rfl
  | b + 1, t => by
    rw [rev, rev]
    have h1 : t % 2 ^ (b + 1) % 2 = t % 2 := by rw [Nat.pow_succ, Nat.mul_comm]; exact Nat.mod_mul_right_mod _ _ _
    have h2 : t % 2 ^ (b + 1) / 2 = (t / 2) % 2 ^ b := by rw [Nat.pow_succ, Nat.mul_comm]; exact Nat.mod_mul_right_div_self _ _ _
    rw [h1, h2, rev_mod b (t / 2)]
theorem rev_rev : ∀ (b t : Nat), t < 2 ^ b → rev b (rev b t) = t
  | 0, t, h => by simp at h; subst h; rfl
  | b + 1, t, h => by
    have hl := rev_lt b (t / 2)
    have e0 : rev (b + 1) t = (t % 2) * 2 ^ b + rev b (t / 2) := rfl
    have e1 : rev (b + 1) t / 2 ^ b = t % 2 := by
      rw [e0, Nat.add_comm, Nat.add_mul_div_right _ _ (Nat.two_pow_pos b), Nat.div_eq_of_lt hl, Nat.zero_add]
    have e2 : rev b (rev (b + 1) t) = t / 2 := by
      rw [← rev_mod b (rev (b + 1) t), e0, Nat.add_comm, Nat.add_mul_mod_self_right, Nat.mod_eq_of_lt hl]
      exact rev_rev b (t / 2) (by rw [Nat.pow_succ] at h; omega)
    rw [rev_add b 1, e2, e1]
    have : rev 1 (t % 2) = t % 2 := by
      rcases (by omega : t % 2 = 0 ∨ t % 2 = 1) with h | h <;> rw [h] <;> rfl
    rw [this]
    omega
theorem rev64_16 {t : Nat} (h : t < 65536) : rev64N t = rev 16 t * 281474976710656 := by
  have h1 := allB_spec rev64_all t (Nat.zero_le _) (by simpa using h)
  have h2 := allB_spec rv8_all (t % 256) (Nat.zero_le _) (by have := Nat.mod_lt t (show 0 < 256 by decide); simpa using this)
  have hq : t / 256 < 256 := by omega
  have h3 := allB_spec rv8_all (t / 256) (Nat.zero_le _) (by omega)
  simp only [beq_iff_eq] at h1 h2 h3
  rw [h1, h2, h3]
  have := rev_add 8 8 t
  rw [show (8 : Nat) + 8 = 16 from rfl] at this
  rw [this, ← rev_mod 8 t]
/-! ### from whole numbers to natural ones -/
theorem wrapU (n : Nat) : IntKind.u64.wrap (n : Int) = ((n % 2 ^ 64 : Nat) : Int) := by
  simp [IntKind.wrap, IntKind.signed, IntKind.bits]
theorem andN {x y : Nat} (hx : x < 2 ^ 64) (hy : y < 2 ^ 64) : Go.bits .and .u64 (x : Int) (y : Int) = ((x &&& y : Nat) : Int) := by
  have h : ((BitVec.ofInt 64 (x : Int) &&& BitVec.ofInt 64 (y : Int)).toNat) = x &&& y := by
    rw [BitVec.toNat_and, BitVec.ofInt_natCast, BitVec.ofInt_natCast, BitVec.toNat_ofNat, BitVec.toNat_ofNat, Nat.mod_eq_of_lt hx, Nat.mod_eq_of_lt hy]
  have h2 : x &&& y < 2 ^ 64 := Nat.and_lt_two_pow x hy
  show IntKind.u64.wrap (((BitVec.ofInt 64 (x : Int) &&& BitVec.ofInt 64 (y : Int)).toNat : Nat) : Int) = _
  rw [h, wrapU, Nat.mod_eq_of_lt h2]
theorem orN {x y : Nat} (hx : x < 2 ^ 64) (hy : y < 2 ^ 64) : Go.bits .or .u64 (x : Int) (y : Int) = ((x ||| y : Nat) : Int) := by
  have h : ((BitVec.ofInt 64 (x : Int) ||| BitVec.ofInt 64 (y : Int)).toNat) = x ||| y := by
    rw [BitVec.toNat_or, BitVec.ofInt_natCast, BitVec.ofInt_natCast, BitVec.toNat_ofNat, BitVec.toNat_ofNat, Nat.mod_eq_of_lt hx, Nat.mod_eq_of_lt hy]
  have h2 : x ||| y < 2 ^ 64 := Nat.or_lt_two_pow hx hy
  show IntKind.u64.wrap (((BitVec.ofInt 64 (x : Int) ||| BitVec.ofInt 64 (y : Int)).toNat : Nat) : Int) = _
  rw [h, wrapU, Nat.mod_eq_of_lt h2]
theorem sw_lt {m k x : Nat} (hm : m < 2 ^ 64) : sw m k x < 2 ^ 64 := Nat.or_lt_two_pow (Nat.and_lt_two_pow _ hm) (Nat.mod_lt _ (by decide))
theorem swI {m k x : Nat} (hm : m < 2 ^ 64) (hx : x < 2 ^ 64) (p : Int) (hp : p = ((2 ^ k : Nat) : Int)) (mi : Int) (hmi : mi = (m : Int)) :
    Go.bits .or .u64 (Go.bits .and .u64 ((x : Int) / p) mi) (IntKind.u64.wrap ((Go.bits .and .u64 (x : Int) mi) * p)) = ((sw m k x : Nat) : Int) := by
  subst hp hmi
  have h1 : x / 2 ^ k < 2 ^ 64 := Nat.lt_of_le_of_lt (Nat.div_le_self _ _) hx
  rw [← Int.natCast_ediv, andN h1 hm, andN hx hm, ← Int.natCast_mul, wrapU, orN (Nat.and_lt_two_pow _ hm) (Nat.mod_lt _ (by decide))]
  rfl
theorem rev64_f {x : Nat} (hx : x < 2 ^ 64) : bits_Reverse64.f (x : Int) = some ((rev64N x : Nat) : Int) := by
  unfold bits_Reverse64.f bits_ReverseBytes64.f
  have l1 : sw 6148914691236517205 1 x < 2 ^ 64 := sw_lt (by decide)
  have l2 : sw 3689348814741910323 2 (sw 6148914691236517205 1 x) < 2 ^ 64 := sw_lt (by decide)
  have l3 : sw 1085102592571150095 4 (sw 3689348814741910323 2 (sw 6148914691236517205 1 x)) < 2 ^ 64 := sw_lt (by decide)
  have l4 : sw 71777214294589695 8 (sw 1085102592571150095 4 (sw 3689348814741910323 2 (sw 6148914691236517205 1 x))) < 2 ^ 64 := sw_lt (by decide)
  have l5 : sw 281470681808895 16 (sw 71777214294589695 8 (sw 1085102592571150095 4 (sw 3689348814741910323 2 (sw 6148914691236517205 1 x)))) < 2 ^ 64 := sw_lt (by decide)
  rw [swI (m := 6148914691236517205) (k := 1) (by decide) hx 2 (by decide) 6148914691236517205 (by decide)]
  rw [swI (m := 3689348814741910323) (k := 2) (by decide) l1 4 (by decide) 3689348814741910323 (by decide)]
  rw [swI (m := 1085102592571150095) (k := 4) (by decide) l2 16 (by decide) 1085102592571150095 (by decide)]
  rw [swI (m := 71777214294589695) (k := 8) (by decide) l3 256 (by decide) 71777214294589695 (by decide)]
  rw [swI (m := 281470681808895) (k := 16) (by decide) l4 65536 (by decide) 281470681808895 (by decide)]
  have e1 : (4294967296 : Int) = ((2 ^ 32 : Nat) : Int) := by decide
  rw [e1, ← Int.natCast_ediv, ← Int.natCast_mul, wrapU, orN (Nat.lt_of_le_of_lt (Nat.div_le_self _ _) l5) (Nat.mod_lt _ (by decide))]
  rfl
theorem size_f {b : Nat} (hb : b ≤ 16) : hash_size.f (b : Int) = some (b : Int) := by
  unfold hash_size.f mn mx
  congr 1
  split <;> split <;> omega
theorem low_f {c : Int} {b : Nat} (hb : b ≤ 16) (h0 : 0 ≤ c) (h1 : c < 18446744073709551616) : hash_low.f c (b : Int) = some (((c.toNat % 2 ^ b : Nat)) : Int) := by
  unfold hash_low.f
  rw [size_f hb]
  simp only [Option.bind_some]
  rw [if_pos (by omega)]
  obtain ⟨n, rfl⟩ : ∃ n : Nat, c = n := ⟨c.toNat, by omega⟩
  have hp : 2 ^ b ≤ 2 ^ 16 := Nat.pow_le_pow_right (by decide) hb
  have hp0 := Nat.two_pow_pos b
  have e1 : shl .u64 1 (b : Int) = ((2 ^ b : Nat) : Int) := by
    unfold shl
    rw [Int.toNat_natCast, Nat.min_eq_left (by show b ≤ 64; omega), Int.one_mul, show ((2 : Int) ^ b) = ((2 ^ b : Nat) : Int) by simp, wrapU, Nat.mod_eq_of_lt (by omega)]
  have e2 : IntKind.u64.wrap (((2 ^ b : Nat) : Int) - 1) = ((2 ^ b - 1 : Nat) : Int) := by
    rw [show ((2 ^ b : Nat) : Int) - 1 = ((2 ^ b - 1 : Nat) : Int) by omega, wrapU, Nat.mod_eq_of_lt (by omega)]
  rw [e1, e2, andN (by omega) (by omega), Nat.and_two_pow_sub_one_eq_mod, Int.toNat_natCast]
theorem turn_f {c : Int} {b : Nat} (hb : b ≤ 16) (h0 : 0 ≤ c) (h1 : c < 18446744073709551616) : hash_Turn.f c (b : Int) = some ((rev b c.toNat : Nat) : Int) := by
  unfold hash_Turn.f
  rw [size_f hb, low_f hb h0 h1]
  simp only [Option.bind_some]
  by_cases hz : b = 0
  · subst hz
    rw [if_pos (show ((0 : Nat) : Int) = 0 from rfl)]
    rfl
  · rw [if_neg (by omega)]
    have hlt : c.toNat % 2 ^ b < 2 ^ b := Nat.mod_lt _ (Nat.two_pow_pos b)
    have hp : 2 ^ b ≤ 2 ^ 16 := Nat.pow_le_pow_right (by decide) hb
    rw [rev64_f (by omega)]
    simp only [Option.bind_some]
    have ew : wrap64 (64 - (b : Int)) = ((64 - b : Nat) : Int) := by unfold wrap64; omega
    rw [ew, if_pos (by omega)]
    unfold shr
    rw [Int.toNat_natCast, Nat.min_eq_left (by show 64 - b ≤ 64; omega), show ((2 : Int) ^ (64 - b)) = ((2 ^ (64 - b) : Nat) : Int) by simp, ← Int.natCast_ediv, rev64_16 (by omega)]
    have e3 : rev 16 (c.toNat % 2 ^ b) = rev b c.toNat * 2 ^ (16 - b) := by
      have := rev_add b (16 - b) (c.toNat % 2 ^ b)
      rw [show b + (16 - b) = 16 by omega, Nat.div_eq_of_lt hlt, rev_zero, rev_mod, Nat.add_zero] at this
      exact this
    rw [e3, Nat.mul_assoc, show (281474976710656 : Nat) = 2 ^ 48 by decide, ← Nat.pow_add, show 16 - b + 48 = 64 - b by omega, Nat.mul_div_cancel _ (Nat.two_pow_pos _)]
/-- The cursor behind that of turn t. -/
theorem next_f {t b : Nat} (hb : b ≤ 16) (h : t < 2 ^ b) : hash_Next.f ((rev b t : Nat) : Int) (b : Int) = some ((rev b (t + 1) : Nat) : Int) := by
  have hp : 2 ^ b ≤ 2 ^ 16 := Nat.pow_le_pow_right (by decide) hb
  have hl := rev_lt b t
  unfold hash_Next.f
  rw [turn_f hb (by omega) (by omega), Int.toNat_natCast, rev_rev b t h]
  simp only [Option.bind_some]
  rw [show (t : Int) + 1 = ((t + 1 : Nat) : Int) by omega, wrapU, Nat.mod_eq_of_lt (by omega), turn_f hb (by omega) (by omega), Int.toNat_natCast]
  rfl
theorem rev_end (b : Nat) : rev b (2 ^ b) = 0 := by rw [← rev_mod, Nat.mod_self, rev_zero]
theorem rev_pos {b t : Nat} (h : t < 2 ^ b) (h0 : 0 < t) : rev b t ≠ 0 := fun e => by
  have := rev_rev b t h
  rw [e, rev_zero] at this
  omega
end Go.Sl
/-! ### DtI649 -/
namespace Go.Sl.DI64
open Go.RowKit Go.Proofs Go.Sl Go.Proofs.YteakblblpiihpaaW.PrintWords Go.Proofs.Yteakblblpiihpaa.PZs
set_option linter.unusedVariables false
set_option linter.unusedSimpArgs false
set_option maxRecDepth 100000

/-- The keys at a place. -/
def kaD (c : List (List DN)) (p : Nat) : List ByteArray := (c.getD p []).map (·.k)
theorem kaD_at {c : List (List DN)} {p : Nat} (h : p < c.length) : kaD c p = c[p].map (·.k) := by
  unfold kaD
  simp [List.getD_eq_getElem?_getD, h]
/-- How many bits a cursor has. -/
def bitsD (d : DS) : Nat := match d.sec with | none => d.s | some e => min d.s e.s
/-- A turn's keys. -/
def turnK (d : DS) (p : Nat) : List ByteArray := match d.sec with
  | none => kaD d.c p
  | some e => if d.s < e.s then kaD d.c p ++ (kaD e.c p ++ kaD e.c (p + 2 ^ d.s)) else kaD e.c p ++ (kaD d.c p ++ kaD d.c (p + 2 ^ e.s))
theorem place_mod {p b : Nat} (h : p < 2 ^ b) : ((p : Nat) : Int) % 2 ^ b = (p : Int) := by
  have h2 : ((p : Nat) : Int) < ((2 ^ b : Nat) : Int) := by omega
  have e : (2 : Int) ^ b = ((2 ^ b : Nat) : Int) := by simp
  rw [e]
  exact Int.emod_eq_of_lt (by omega) h2
theorem shl_place {p s : Nat} (hp : p < 2 ^ s) (hs : s ≤ 16) : wrap64 ((p : Int) + wrap64 (2 ^ s)) = ((p + 2 ^ s : Nat) : Int) := by
  have hp2 : 2 ^ s ≤ 65536 := Nat.pow_le_pow_right (n := 2) (by decide) hs
  have e1 : ((2 : Int) ^ s) = ((2 ^ s : Nat) : Int) := by simp
  rw [e1]
  generalize 2 ^ s = z at hp hp2
  have e2 : wrap64 (z : Int) = (z : Int) := by unfold wrap64; omega
  rw [e2]
  unfold wrap64
  omega
/-- 'append(v, v2...)'. -/
theorem rK_both {w0 w : World} {v v2 : Value} {l m : List ByteArray} {R : Sl.HP} (hl : l.length + m.length ≤ 5000000000000) (S : Sat w0 w (rK v l * (rK v2 m * R))) :
    ∃ v' w', (Builtin.append_ #[42, 42] 42 #[v, v2]).run Try.prog w = .ok v' w' ∧ Sat w0 w' (rK v' (l ++ m) * R) := by
  obtain ⟨v', w', hr, S'⟩ := S.run_append_row 42 42 Try.underlying42 ksInfo rfl (by simp [Value.oneCell']) (by unfold maxLen; omega) (by omega)
  exact ⟨v', w', hr, (S'.p2.drop1).cong (by simp [rK])⟩
theorem idx2a (a b : Int) (w : World) : (Instr.index 160 (.agg #[.int .i64 a, .int .i64 b]) (.int .i64 0)).run Try.prog w = .ok (.int .i64 a) w := by kernel_rfl
theorem idx2b (a b : Int) (w : World) : (Instr.index 160 (.agg #[.int .i64 a, .int .i64 b]) (.int .i64 1)).run Try.prog w = .ok (.int .i64 b) w := by kernel_rfl
theorem kaD_le {c : List (List DN)} (p : Nat) : (kaD c p).length ≤ c.flatten.length := by
  by_cases h : p < c.length
  · rw [kaD_at h, List.length_map, (flatten_at h).length_eq, List.length_append]
    omega
  · unfold kaD
    rw [List.getD_eq_getElem?_getD, List.getElem?_eq_none (by omega)]
    simp
/-- 'Turn', of a table that is not parted. -/
theorem tTurn1 {w0 w : World} {t s g n tt : Nat} {seed : Int} {c : List (List DN)} {R : Sl.HP} (hok : DS.Ok seed ⟨s, g, c, none⟩) (ht : tt < 2 ^ s) (S : Sat w0 w (tabN t seed ⟨s, g, c, none⟩ n * R)) :
    Calls Try.prog 76 #[pt t, .int .u64 (rev s tt : Nat)] w fun en w' => ∃ u, en = .returned (.tuple #[.int .u64 (rev s (tt + 1) : Nat), u]) ∧ Sat w0 w' (rK u (turnK ⟨s, g, c, none⟩ (rev s tt)) * (tabN t seed ⟨s, g, c, none⟩ n * R)) := by
  have hs : s ≤ 16 := hok.h0.b1
  have hrl := rev_lt s tt
  have hp2 : 2 ^ s ≤ 2 ^ 16 := Nat.pow_le_pow_right (by decide) hs
  obtain ⟨p, hp⟩ : ∃ p, p = rev s tt := ⟨_, rfl⟩
  rw [← hp] at hrl ⊢
  have hcl : c.length = 2 ^ s := hok.h0.len
  have HNX : Hid (hash_Next.f (p : Int) (s : Int) = some ((rev s (tt + 1) : Nat) : Int)) := Lib.hid (by rw [hp]; exact next_f hs ht)
  have HPB : Hid (0 ≤ (p : Int) ∧ (p : Int) < 2 ^ 64) := Lib.hid (by omega)
  have HSS := Lib.hid hs
  have HMD := Lib.hid (place_mod hrl)
  have HPC := Lib.hid (show p < c.length by omega)
  have HBG := Lib.hid hok.big
  have HK : Hid (turnK ⟨s, g, c, none⟩ p = (c[p]'HPC.out).map (·.k)) := Lib.hid (kaD_at HPC.out)
  have HS := Lib.hid S
  have HS1 : Hid (Sat w0 w (tab1 t seed s g c n * R)) := Lib.hid S
  clear S hok hrl hp2 hp hcl ht
  go_enter Try.func76, Try.ntmps76
  go_wp2_with fail
  refine (tSize HS.out).mono ?_
  rintro en w' ⟨rfl, rfl⟩
  go_wp2_with fail
  refine (tToward1 HS1.out).mono ?_
  rintro en w' ⟨rfl, rfl⟩
  go_wp2_with fail
  refine (hash_Next.calls (p : Int) (s : Int) _ w HNX.out).mono ?_
  rintro en w1 ⟨rfl, hb1⟩
  have HS2 := Lib.hid (HS.out.below hb1)
  clear hb1 HS HS1
  go_wp2_with fail
  refine (hplace_calls (p : Int) s HPB.out.1 HPB.out.2 HSS.out w1).mono ?_
  rintro en w' ⟨rfl, rfl⟩
  rw [HMD.out]
  go_wp2_with fail
  refine (tChain0 HPC.out HBG.out HS2.out).mono ?_
  rintro en w2 ⟨u, rfl, S3⟩
  rw [← HK.out] at S3
  have HS3 := Lib.hid S3
  clear S3 HS2
  go_wp2_with fail
  go_ret2
  exact ⟨u, rfl, HS3.out⟩
/-- 'Turn', of a parted table that grows. -/
theorem tTurnA {w0 w : World} {t s g n tt : Nat} {seed : Int} {c : List (List DN)} {e : DS2} {R : Sl.HP} (hok : DS.Ok seed ⟨s, g, c, some e⟩) (hlt : s < e.s) (ht : tt < 2 ^ s) (S : Sat w0 w (tabN t seed ⟨s, g, c, some e⟩ n * R)) :
    Calls Try.prog 76 #[pt t, .int .u64 (rev s tt : Nat)] w fun en w' => ∃ u, en = .returned (.tuple #[.int .u64 (rev s (tt + 1) : Nat), u]) ∧ Sat w0 w' (rK u (turnK ⟨s, g, c, some e⟩ (rev s tt)) * (tabN t seed ⟨s, g, c, some e⟩ n * R)) := by
  have hs : s ≤ 16 := hok.h0.b1
  have hes : e.s ≤ 16 := (hok.h1 e rfl).1.b1
  have had : e.s = s + 1 := by rcases hok.ad e rfl with h | h <;> simp only at h <;> omega
  have hrl := rev_lt s tt
  have hp2 : 2 ^ s ≤ 2 ^ 16 := Nat.pow_le_pow_right (by decide) hs
  obtain ⟨p, hp⟩ : ∃ p, p = rev s tt := ⟨_, rfl⟩
  rw [← hp] at hrl ⊢
  have hcl : c.length = 2 ^ s := hok.h0.len
  have hel : e.c.length = 2 ^ s * 2 := by rw [(hok.h1 e rfl).1.len, had, Nat.pow_succ]
  have HNX : Hid (hash_Next.f (p : Int) (s : Int) = some ((rev s (tt + 1) : Nat) : Int)) := Lib.hid (by rw [hp]; exact next_f hs ht)
  have HPB : Hid (0 ≤ (p : Int) ∧ (p : Int) < 2 ^ 64) := Lib.hid (by omega)
  have HSS := Lib.hid hs
  have HMD := Lib.hid (place_mod hrl)
  have HPC := Lib.hid (show p < c.length by omega)
  have HQ1 := Lib.hid (show p < e.c.length by omega)
  have HQ2 := Lib.hid (show p + 2 ^ s < e.c.length by omega)
  have HBG := Lib.hid hok.big
  have HK : Hid (turnK ⟨s, g, c, some e⟩ p = kaD c p ++ (kaD e.c p ++ kaD e.c (p + 2 ^ s))) := Lib.hid (by unfold turnK; simp only; rw [if_pos hlt])
  have HMIN : Hid ((if e.s < s then (e.s : Int) else (s : Int)) = (s : Int)) := Lib.hid (if_neg (by omega))
  have hsi : (s : Int) ≤ 16 := by omega
  have HW : Hid (wrap64 ((p : Int) + wrap64 (2 ^ s)) = ((p + 2 ^ s : Nat) : Int)) := Lib.hid (shl_place hrl hs)
  have hesd : decide ((e.s : Int) < 0) = false := by simp
  have HS := Lib.hid S
  have HS1 : Hid (Sat w0 w (tab2 t seed s g c e n * R)) := Lib.hid S
  clear S hok hp2 hp hcl ht hel had hlt hs
  go_enter Try.func76, Try.ntmps76
  go_wp2_with fail
  refine (tSize HS.out).mono ?_
  rintro en w' ⟨rfl, rfl⟩
  go_wp2_with fail
  refine (tToward2 HS1.out).mono ?_
  rintro en w' ⟨rfl, rfl⟩
  go_upto_region 7 with (fail)
  rw [HMIN.out]
  go_wp2_with fail
  refine (hplace_calls (p : Int) s HPB.out.1 HPB.out.2 HSS.out w).mono ?_
  rintro en w' ⟨rfl, rfl⟩
  rw [HMD.out]
  go_wp2_with fail
  refine (tChain0 HPC.out HBG.out HS.out).mono ?_
  rintro en w2 ⟨u, rfl, S3⟩
  rw [← kaD_at HPC.out] at S3
  have HS3 := Lib.hid S3
  clear S3 HS HS1
  go_upto_region 10 with (fail)
  rw [HW.out]
  obtain ⟨q, hq⟩ : ∃ q, q = p + 2 ^ s := ⟨_, rfl⟩
  rw [← hq] at HQ2 HK ⊢
  have HQQ := Lib.hid hq
  clear hq
  go_loopw [10, 47] (fun v10 v47 wr => ∃ (i : Nat) (acc : List ByteArray), v47 = .int .i64 i ∧ i ≤ 2 ∧ Hid (acc = if i = 0 then kaD c p else if i = 1 then kaD c p ++ kaD e.c p else kaD c p ++ kaD e.c p ++ kaD e.c q) ∧ Hid (Sat w0 wr (rK v10 acc * (tabN t seed ⟨s, g, c, some e⟩ n * R)))) (fun _ v47 _ => 2 - (RowKit.intOf v47).toNat)
  case atStart => exact ⟨0, _, rfl, by omega, Lib.hid rfl, HS3⟩
  case round =>
    clear HS3
    obtain ⟨i, acc, rfl, hi, HA, HSi⟩ := hrel
    by_cases h0 : i = 0
    · subst h0
      have ha := HA.out
      rw [if_pos rfl] at ha
      have hx := fun w => idx2a (p : Int) (q : Int) w
      have HA2 := Lib.hid ha
      clear ha HA
      go_wp2_with fail
      refine (tChain1 rfl HQ1.out HBG.out HSi.out.p2).mono ?_
      rintro en w4 ⟨u4, rfl, S4⟩
      rw [← kaD_at HQ1.out] at S4
      obtain ⟨v5, w5, hr, S5⟩ := rK_both (v := u10) (v2 := u4) (R := tabN t seed ⟨s, g, c, some e⟩ n * R) (l := acc) (m := kaD e.c p) (by have h1 := kaD_le (c := c) p; have h2 := kaD_le (c := e.c) p; have h3 := HBG.out; rw [HA2.out]; simp only [DS.nodes, DS.nodes2, List.length_append] at h3; omega) (S4.cong (by ac_rfl))
      have HS5 := Lib.hid S5
      clear S4 S5 HSi hx
      go_wp2_with (at_builtin; refine wpList_append_eq rfl _ _ _ _ rfl rfl rfl hr ?_)
      clear hr
      go_roundw
      case rel => exact ⟨1, _, rfl, by omega, Lib.hid (by rw [HA2.out]; rfl), HS5⟩
      case measure => simp [RowKit.intOf]
    · by_cases h1 : i = 1
      · subst h1
        have ha := HA.out
        rw [if_neg (by decide), if_pos rfl] at ha
        have hx := fun w => idx2b (p : Int) (q : Int) w
        have HA2 := Lib.hid ha
        clear ha HA
        go_wp2_with fail
        refine (tChain1 rfl HQ2.out HBG.out HSi.out.p2).mono ?_
        rintro en w4 ⟨u4, rfl, S4⟩
        rw [← kaD_at HQ2.out] at S4
        obtain ⟨v5, w5, hr, S5⟩ := rK_both (v := u10) (v2 := u4) (R := tabN t seed ⟨s, g, c, some e⟩ n * R) (l := acc) (m := kaD e.c q) (by have h1 := kaD_le (c := c) p; have h2 := kaD_le (c := e.c) p; have h4 := kaD_le (c := e.c) q; have h3 := HBG.out; rw [HA2.out]; simp only [DS.nodes, DS.nodes2, List.length_append] at h3 ⊢; omega) (S4.cong (by ac_rfl))
        have HS5 := Lib.hid S5
        clear S4 S5 HSi hx
        go_wp2_with (at_builtin; refine wpList_append_eq rfl _ _ _ _ rfl rfl rfl hr ?_)
        clear hr
        go_roundw
        case rel => exact ⟨2, _, rfl, by omega, Lib.hid (by rw [HA2.out]; rfl), HS5⟩
        case measure => simp [RowKit.intOf]
      · have h2 : i = 2 := by omega
        subst h2
        have ha := HA.out
        rw [if_neg (by decide), if_neg (by decide), List.append_assoc, ← HK.out] at ha
        have HA2 := Lib.hid ha
        clear ha HA
        go_wp2_with fail
        refine (hash_Next.calls (p : Int) (s : Int) _ _ HNX.out).mono ?_
        rintro en w5 ⟨rfl, hb5⟩
        have HS5 := Lib.hid (HSi.out.below hb5)
        clear hb5 HSi
        go_wp2_with fail
        go_ret2
        exact ⟨_, rfl, by rw [← HA2.out]; exact HS5.out⟩
/-- 'Turn', of a parted table that shrinks. -/
theorem tTurnB {w0 w : World} {t s g n tt : Nat} {seed : Int} {c : List (List DN)} {e : DS2} {R : Sl.HP} (hok : DS.Ok seed ⟨s, g, c, some e⟩) (hlt : e.s < s) (ht : tt < 2 ^ e.s) (S : Sat w0 w (tabN t seed ⟨s, g, c, some e⟩ n * R)) :
    Calls Try.prog 76 #[pt t, .int .u64 (rev e.s tt : Nat)] w fun en w' => ∃ u, en = .returned (.tuple #[.int .u64 (rev e.s (tt + 1) : Nat), u]) ∧ Sat w0 w' (rK u (turnK ⟨s, g, c, some e⟩ (rev e.s tt)) * (tabN t seed ⟨s, g, c, some e⟩ n * R)) := by
  have hs : e.s ≤ 16 := (hok.h1 e rfl).1.b1
  have hes : s ≤ 16 := hok.h0.b1
  have had : s = e.s + 1 := by rcases hok.ad e rfl with h | h <;> simp only at h <;> omega
  have hrl := rev_lt e.s tt
  have hp2 : 2 ^ e.s ≤ 2 ^ 16 := Nat.pow_le_pow_right (by decide) hs
  obtain ⟨p, hp⟩ : ∃ p, p = rev e.s tt := ⟨_, rfl⟩
  rw [← hp] at hrl ⊢
  have hcl : e.c.length = 2 ^ e.s := (hok.h1 e rfl).1.len
  have hel : c.length = 2 ^ e.s * 2 := by rw [show c.length = 2 ^ s from hok.h0.len, had, Nat.pow_succ]
  have HNX : Hid (hash_Next.f (p : Int) (e.s : Int) = some ((rev e.s (tt + 1) : Nat) : Int)) := Lib.hid (by rw [hp]; exact next_f hs ht)
  have HPB : Hid (0 ≤ (p : Int) ∧ (p : Int) < 2 ^ 64) := Lib.hid (by omega)
  have HSS := Lib.hid hs
  have HMD := Lib.hid (place_mod hrl)
  have HPC := Lib.hid (show p < e.c.length by omega)
  have HQ1 := Lib.hid (show p < c.length by omega)
  have HQ2 := Lib.hid (show p + 2 ^ e.s < c.length by omega)
  have HBG := Lib.hid hok.big
  have HK : Hid (turnK ⟨s, g, c, some e⟩ p = kaD e.c p ++ (kaD c p ++ kaD c (p + 2 ^ e.s))) := Lib.hid (by unfold turnK; simp only; rw [if_neg (by omega)])
  have HMIN : Hid ((if e.s < s then (e.s : Int) else (s : Int)) = (e.s : Int)) := Lib.hid (if_pos hlt)
  have hsi : (e.s : Int) ≤ 16 := by omega
  have hne : ((e.s : Int) == (s : Int)) = false := by rw [beq_eq_false_iff_ne]; omega
  have hne2 : (e.s == s) = false := by rw [beq_eq_false_iff_ne]; omega
  have hne3 : ((e.s : Int) != (s : Int)) = true := by simp [bne, hne]
  have HW : Hid (wrap64 ((p : Int) + wrap64 (2 ^ e.s)) = ((p + 2 ^ e.s : Nat) : Int)) := Lib.hid (shl_place hrl hs)
  have hesd : decide ((e.s : Int) < 0) = false := by simp
  have HS := Lib.hid S
  have HS1 : Hid (Sat w0 w (tab2 t seed s g c e n * R)) := Lib.hid S
  clear S hok hp2 hp hcl ht hel had hlt hs
  go_enter Try.func76, Try.ntmps76
  go_wp2_with fail
  refine (tSize HS.out).mono ?_
  rintro en w' ⟨rfl, rfl⟩
  go_wp2_with fail
  refine (tToward2 HS1.out).mono ?_
  rintro en w' ⟨rfl, rfl⟩
  go_upto_region 7 with (fail)
  rw [HMIN.out]
  go_wp2_with fail
  refine (hplace_calls (p : Int) e.s HPB.out.1 HPB.out.2 HSS.out w).mono ?_
  rintro en w' ⟨rfl, rfl⟩
  rw [HMD.out]
  go_wp2_with fail
  refine (tChain1 rfl HPC.out HBG.out HS.out).mono ?_
  rintro en w2 ⟨u, rfl, S3⟩
  rw [← kaD_at HPC.out] at S3
  have HS3 := Lib.hid S3
  clear S3 HS HS1
  go_upto_region 10 with (fail)
  rw [HW.out]
  obtain ⟨q, hq⟩ : ∃ q, q = p + 2 ^ e.s := ⟨_, rfl⟩
  rw [← hq] at HQ2 HK ⊢
  have HQQ := Lib.hid hq
  clear hq
  go_loopw [10, 47] (fun v10 v47 wr => ∃ (i : Nat) (acc : List ByteArray), v47 = .int .i64 i ∧ i ≤ 2 ∧ Hid (acc = if i = 0 then kaD e.c p else if i = 1 then kaD e.c p ++ kaD c p else kaD e.c p ++ kaD c p ++ kaD c q) ∧ Hid (Sat w0 wr (rK v10 acc * (tabN t seed ⟨s, g, c, some e⟩ n * R)))) (fun _ v47 _ => 2 - (RowKit.intOf v47).toNat)
  case atStart => exact ⟨0, _, rfl, by omega, Lib.hid rfl, HS3⟩
  case round =>
    clear HS3
    obtain ⟨i, acc, rfl, hi, HA, HSi⟩ := hrel
    by_cases h0 : i = 0
    · subst h0
      have ha := HA.out
      rw [if_pos rfl] at ha
      have hx := fun w => idx2a (p : Int) (q : Int) w
      have HA2 := Lib.hid ha
      clear ha HA
      go_wp2_with fail
      refine (tChain0 HQ1.out HBG.out HSi.out.p2).mono ?_
      rintro en w4 ⟨u4, rfl, S4⟩
      rw [← kaD_at HQ1.out] at S4
      obtain ⟨v5, w5, hr, S5⟩ := rK_both (v := u10) (v2 := u4) (R := tabN t seed ⟨s, g, c, some e⟩ n * R) (l := acc) (m := kaD c p) (by have h1 := kaD_le (c := c) p; have h2 := kaD_le (c := e.c) p; have h3 := HBG.out; rw [HA2.out]; simp only [DS.nodes, DS.nodes2, List.length_append] at h3; omega) (S4.cong (by ac_rfl))
      have HS5 := Lib.hid S5
      clear S4 S5 HSi hx
      go_wp2_with (at_builtin; refine wpList_append_eq rfl _ _ _ _ rfl rfl rfl hr ?_)
      clear hr
      go_roundw
      case rel => exact ⟨1, _, rfl, by omega, Lib.hid (by rw [HA2.out]; rfl), HS5⟩
      case measure => simp [RowKit.intOf]
    · by_cases h1 : i = 1
      · subst h1
        have ha := HA.out
        rw [if_neg (by decide), if_pos rfl] at ha
        have hx := fun w => idx2b (p : Int) (q : Int) w
        have HA2 := Lib.hid ha
        clear ha HA
        go_wp2_with fail
        refine (tChain0 HQ2.out HBG.out HSi.out.p2).mono ?_
        rintro en w4 ⟨u4, rfl, S4⟩
        rw [← kaD_at HQ2.out] at S4
        obtain ⟨v5, w5, hr, S5⟩ := rK_both (v := u10) (v2 := u4) (R := tabN t seed ⟨s, g, c, some e⟩ n * R) (l := acc) (m := kaD c q) (by have h1 := kaD_le (c := c) p; have h2 := kaD_le (c := e.c) p; have h4 := kaD_le (c := c) q; have h3 := HBG.out; rw [HA2.out]; simp only [DS.nodes, DS.nodes2, List.length_append] at h3 ⊢; omega) (S4.cong (by ac_rfl))
        have HS5 := Lib.hid S5
        clear S4 S5 HSi hx
        go_wp2_with (at_builtin; refine wpList_append_eq rfl _ _ _ _ rfl rfl rfl hr ?_)
        clear hr
        go_roundw
        case rel => exact ⟨2, _, rfl, by omega, Lib.hid (by rw [HA2.out]; rfl), HS5⟩
        case measure => simp [RowKit.intOf]
      · have h2 : i = 2 := by omega
        subst h2
        have ha := HA.out
        rw [if_neg (by decide), if_neg (by decide), List.append_assoc, ← HK.out] at ha
        have HA2 := Lib.hid ha
        clear ha HA
        go_wp2_with fail
        refine (hash_Next.calls (p : Int) (e.s : Int) _ _ HNX.out).mono ?_
        rintro en w5 ⟨rfl, hb5⟩
        have HS5 := Lib.hid (HSi.out.below hb5)
        clear hb5 HSi
        go_wp2_with fail
        go_ret2
        exact ⟨_, rfl, by rw [← HA2.out]; exact HS5.out⟩
/-- 'Turn', at the cursor of turn tt. -/
theorem tTurn {w0 w : World} {t n tt : Nat} {seed : Int} {d : DS} {R : Sl.HP} (hok : DS.Ok seed d) (ht : tt < 2 ^ bitsD d) (S : Sat w0 w (tabN t seed d n * R)) :
    Calls Try.prog 76 #[pt t, .int .u64 (rev (bitsD d) tt : Nat)] w fun en w' => ∃ u, en = .returned (.tuple #[.int .u64 (rev (bitsD d) (tt + 1) : Nat), u]) ∧ Sat w0 w' (rK u (turnK d (rev (bitsD d) tt)) * (tabN t seed d n * R)) := by
  obtain ⟨s, g, c, sec⟩ := d
  cases sec with
  | none => exact tTurn1 hok ht S
  | some e =>
    have had : e.s = s + 1 ∨ s = e.s + 1 := hok.ad e rfl
    by_cases h : s < e.s
    · have hb : bitsD ⟨s, g, c, some e⟩ = s := Nat.min_eq_left (show s ≤ e.s by omega)
      rw [hb] at ht ⊢
      exact tTurnA hok h ht S
    · have hb : bitsD ⟨s, g, c, some e⟩ = e.s := Nat.min_eq_right (show e.s ≤ s by omega)
      rw [hb] at ht ⊢
      exact tTurnB hok (by omega) ht S
/-! ### all turns meet each key once -/
theorem kaD_flat (c : List (List DN)) : ∀ n, n ≤ c.length → (List.range n).flatMap (kaD c) = ((c.take n).flatten).map (·.k) := by
  intro n
  induction n with
  | zero => intro _; rfl
  | succ n ih =>
    intro h
    rw [List.range_succ, List.flatMap_append, ih (by omega), List.take_add_one, List.getElem?_eq_getElem (by omega), Option.toList_some, List.flatten_append, List.map_append]
    simp [kaD_at (show n < c.length by omega)]
theorem rev_perm (b : Nat) : ((List.range (2 ^ b)).map (rev b)).Perm (List.range (2 ^ b)) := by
  refine (List.perm_ext_iff_of_nodup ?_ List.nodup_range).2 fun a => ?_
  · refine List.pairwise_map.2 (List.Pairwise.imp_of_mem (fun {x y} hx hy hne e => hne ?_) (List.nodup_range (n := 2 ^ b)))
    rw [List.mem_range] at hx hy
    have := congrArg (rev b) e
    rwa [rev_rev b x hx, rev_rev b y hy] at this
  · rw [List.mem_map, List.mem_range]
    constructor
    · rintro ⟨x, _, rfl⟩
      exact rev_lt b x
    · intro h
      exact ⟨rev b a, List.mem_range.2 (rev_lt b a), rev_rev b a h⟩
end Go.Sl.DI64
/-! ### DtI6410 -/
namespace Go.Sl.DI64
open Go.RowKit Go.Proofs Go.Sl Go.Proofs.YteakblblpiihpaaW.PrintWords Go.Proofs.Yteakblblpiihpaa.PZs
set_option linter.unusedVariables false
set_option linter.unusedSimpArgs false
set_option maxRecDepth 100000

theorem flatMap_two {α β : Type} (f g : α → List β) : ∀ l : List α, (l.flatMap fun x => f x ++ g x).Perm (l.flatMap f ++ l.flatMap g)
  | [] => List.Perm.refl _
  | x :: l => by
    rw [List.flatMap_cons, List.flatMap_cons, List.flatMap_cons]
    refine ((flatMap_two f g l).append_left _).trans ?_
    rw [List.append_assoc, List.append_assoc]
    refine List.Perm.append_left _ ?_
    rw [← List.append_assoc, ← List.append_assoc]
    exact List.perm_append_comm.append_right _
theorem kaD_all (c : List (List DN)) {z : Nat} (h : c.length = z) : (List.range z).flatMap (kaD c) = c.flatten.map (·.k) := by
  rw [kaD_flat c z (by omega), ← h, List.take_length]
theorem kaD_twice (c : List (List DN)) {z : Nat} (h : c.length = z * 2) : ((List.range z).flatMap fun p => kaD c p ++ kaD c (p + z)).Perm (c.flatten.map (·.k)) := by
  refine (flatMap_two _ _ _).trans ?_
  rw [← kaD_all c h, show z * 2 = z + z by omega, List.range_add, List.flatMap_append, List.flatMap_map]
  refine List.Perm.append_left _ ?_
  simp only [Nat.add_comm]
  exact List.Perm.refl _
/-- All turns' keys are all keys. -/
theorem turns_all {seed : Int} {d : DS} (hok : DS.Ok seed d) : ((List.range (2 ^ bitsD d)).flatMap fun t => turnK d (rev (bitsD d) t)).Perm (d.nodes.map (·.k)) := by
  have h1 : ((List.range (2 ^ bitsD d)).flatMap fun t => turnK d (rev (bitsD d) t)) = ((List.range (2 ^ bitsD d)).map (rev (bitsD d))).flatMap (turnK d) := by rw [List.flatMap_map]
  rw [h1]
  refine ((rev_perm (bitsD d)).flatMap_right _).trans ?_
  obtain ⟨s, g, c, sec⟩ := d
  cases sec with
  | none =>
    show ((List.range (2 ^ s)).flatMap (kaD c)).Perm ((c.flatten ++ []).map fun x : DN => x.k)
    rw [List.append_nil, kaD_all c hok.h0.len]
  | some e =>
    have had : e.s = s + 1 ∨ s = e.s + 1 := hok.ad e rfl
    have hc : c.length = 2 ^ s := hok.h0.len
    have he : e.c.length = 2 ^ e.s := (hok.h1 e rfl).1.len
    show ((List.range (2 ^ (min s e.s))).flatMap (turnK ⟨s, g, c, some e⟩)).Perm ((c.flatten ++ e.c.flatten).map fun x : DN => x.k)
    rw [List.map_append]
    by_cases h : s < e.s
    · have hf : turnK ⟨s, g, c, some e⟩ = fun p => kaD c p ++ (kaD e.c p ++ kaD e.c (p + 2 ^ s)) := funext fun p => by unfold turnK; simp only; rw [if_pos h]
      rw [hf, Nat.min_eq_left (by omega)]
      refine (flatMap_two _ _ _).trans ?_
      rw [kaD_all c hc]
      exact List.Perm.append_left _ (kaD_twice e.c (by rw [he, show e.s = s + 1 by omega, Nat.pow_succ]))
    · have hf : turnK ⟨s, g, c, some e⟩ = fun p => kaD e.c p ++ (kaD c p ++ kaD c (p + 2 ^ e.s)) := funext fun p => by unfold turnK; simp only; rw [if_neg h]
      rw [hf, Nat.min_eq_right (by omega)]
      refine (flatMap_two _ _ _).trans ?_
      rw [kaD_all e.c he]
      exact (List.Perm.append_left _ (kaD_twice c (by rw [hc, show s = e.s + 1 by omega, Nat.pow_succ]))).trans List.perm_append_comm
/-- The keys of the turns from t on, up to t'. -/
def turnsK (d : DS) (t : Nat) : List ByteArray := (List.range t).flatMap fun i => turnK d (rev (bitsD d) i)
theorem turnsK_next (d : DS) (t : Nat) : turnsK d (t + 1) = turnsK d t ++ turnK d (rev (bitsD d) t) := by
  unfold turnsK
  rw [List.range_succ, List.flatMap_append]
  simp
theorem turnsK_mono (d : DS) : ∀ a b, (turnsK d a).length ≤ (turnsK d (a + b)).length
  | a, 0 => Nat.le_refl _
  | a, b + 1 => by
    rw [← Nat.add_assoc, turnsK_next, List.length_append]
    exact Nat.le_trans (turnsK_mono d a b) (by omega)
theorem turnsK_le {seed : Int} {d : DS} (hok : DS.Ok seed d) {t : Nat} (h : t ≤ 2 ^ bitsD d) : (turnsK d t).length ≤ d.nodes.length := by
  have h1 := (turns_all hok).length_eq
  rw [List.length_map] at h1
  have h2 := turnsK_mono d t (2 ^ bitsD d - t)
  rw [show t + (2 ^ bitsD d - t) = 2 ^ bitsD d by omega] at h2
  unfold turnsK at h2 ⊢
  omega
theorem bitsD_le {seed : Int} {d : DS} (hok : DS.Ok seed d) : bitsD d ≤ 16 := by
  have h := hok.h0.b1
  obtain ⟨s, g, c, sec⟩ := d
  cases sec with
  | none => exact h
  | some e => exact Nat.le_trans (Nat.min_le_left _ _) h
set_option maxHeartbeats 8000000 in
/-- 'Scan', from turn tt on. -/
theorem tScan {w0 w : World} {t n tt : Nat} {seed : Int} {d : DS} {count : Nat} {R : Sl.HP} (hok : DS.Ok seed d) (ht : tt < 2 ^ bitsD d) (hc1 : 1 ≤ count) (hc2 : count ≤ 1000) (S : Sat w0 w (tabN t seed d n * R)) :
    Calls Try.prog 55 #[pt t, .int .u64 (rev (bitsD d) tt : Nat), .int .i64 count] w fun en w' => ∃ t2 L u, tt < t2 ∧ t2 ≤ 2 ^ bitsD d ∧ turnsK d t2 = turnsK d tt ++ L ∧ en = .returned (.tuple #[.int .u64 (rev (bitsD d) t2 : Nat), u]) ∧ Sat w0 w' (rK u L * (tabN t seed d n * R)) := by
  obtain ⟨b, hb⟩ : ∃ b, b = bitsD d := ⟨_, rfl⟩
  have hb16 : b ≤ 16 := by rw [hb]; exact bitsD_le hok
  have HOK := Lib.hid hok
  have HBD := Lib.hid hb
  have HLE : Hid (∀ t, t ≤ 2 ^ bitsD d → (turnsK d t).length ≤ d.nodes.length) := Lib.hid (fun t h => turnsK_le hok h)
  have HBG := Lib.hid hok.big
  rw [← hb] at ht ⊢
  have HT := Lib.hid ht
  have hci : (count : Int) ≤ 1000 := by omega
  have hci1 : (1 : Int) ≤ (count : Int) := by omega
  have HM1 : Hid ((if (count : Int) < 1 then (1 : Int) else (count : Int)) = count) := Lib.hid (if_neg (by omega))
  have HS : Hid (Sat w0 w (rK (.slice none 0 0) [] * (tabN t seed d n * R))) := Lib.hid (S.row_nil _ _)
  clear S hok hb ht
  go_enter Try.func55, Try.ntmps55
  go_upto_region 4 with (fail)
  go_loopw [1, 8, 16] (fun v1 v8 v16 wr => ∃ (i : Nat) (L : List ByteArray) (u : Option Addr) (c8 : Nat), v16 = .int .i64 i ∧ v1 = .int .u64 (rev b (tt + i) : Nat) ∧ v8 = .slice u L.length c8 ∧ i ≤ 10 * count ∧ Hid (tt + i < 2 ^ b) ∧ Hid (turnsK d (tt + i) = turnsK d tt ++ L) ∧ Hid (Sat w0 wr (rK (.slice u L.length c8) L * (tabN t seed d n * R)))) (fun _ _ v16 _ => 10 * count - (RowKit.intOf v16).toNat)
  case atStart => exact ⟨0, [], none, 0, rfl, rfl, rfl, by omega, HT, Lib.hid (by simp), HS⟩
  case round =>
    clear HS
    obtain ⟨i, L, u, c8, rfl, rfl, rfl, hi, HI, HL, HSi⟩ := hrel
    by_cases hlt : i < 10 * count
    · have hld : decide ((i : Int) < 10 * (count : Int)) = true := by simp; omega
      obtain ⟨ti, hti⟩ : ∃ ti, ti = tt + i := ⟨_, rfl⟩
      rw [← hti] at HI HL ⊢
      have HTI := Lib.hid hti
      have hcall : Calls Try.prog 76 #[pt t, .int .u64 (rev b ti : Nat)] wr fun en w' => ∃ u2, en = .returned (.tuple #[.int .u64 (rev b (ti + 1) : Nat), u2]) ∧ Sat w0 w' (rK u2 (turnK d (rev b ti)) * (tabN t seed d n * (rK (.slice u L.length c8) L * R))) := by
        have h := tTurn (R := rK (.slice u L.length c8) L * R) HOK.out (tt := ti) (by rw [← HBD.out]; exact HI.out) HSi.out.p2
        rw [← HBD.out] at h
        exact h
      clear hti
      go_wp2_with fail
      refine hcall.mono ?_
      rintro en w2 ⟨u2, rfl, S2⟩
      clear hcall
      obtain ⟨K, hK⟩ : ∃ K, K = turnK d (rev b ti) := ⟨_, rfl⟩
      rw [← hK] at S2
      have hNX : turnsK d (ti + 1) = turnsK d tt ++ (L ++ K) := by rw [turnsK_next, HL.out, hK, HBD.out, List.append_assoc]
      have hlen : L.length + K.length ≤ 5000000000000 := by
        have h1 := HLE.out (ti + 1) (by rw [← HBD.out]; have := HI.out; omega)
        rw [hNX, List.length_append, List.length_append] at h1
        have h2 := HBG.out
        omega
      obtain ⟨v5, w5, hr, S5⟩ := rK_both (v := .slice u L.length c8) (v2 := u2) (R := tabN t seed d n * R) hlen (S2.cong (by ac_rfl))
      have hv5 : ∃ u5 c5, v5 = .slice u5 (L ++ K).length c5 := by
        obtain ⟨_, h⟩ := S5.row_open
        rcases h with ⟨e1, e2, _⟩ | ⟨g', cap, cur, e1, _⟩
        · exact ⟨none, 0, by rw [e1, e2]⟩
        · exact ⟨some ⟨g', 0, none⟩, cap, by rw [e1]⟩
      obtain ⟨u5, c5, rfl⟩ := hv5
      obtain ⟨M, hM⟩ : ∃ M, M = L ++ K := ⟨_, rfl⟩
      rw [← hM] at S5 hNX hr
      have HNX := Lib.hid hNX
      have HS5 := Lib.hid S5
      clear S2 S5 hNX hlen hK hM HSi
      go_upto_region 7 with (at_builtin; refine wpList_append_eq rfl _ _ _ _ rfl rfl rfl hr ?_)
      clear hr
      by_cases hend : ti + 1 = 2 ^ b
      · have HZ : Hid (rev b (ti + 1) = 0) := Lib.hid (by rw [hend]; exact rev_end b)
        have hz : (((rev b (ti + 1) : Nat) : Int) == 0) = true := by rw [HZ.out]; rfl
        have HE := Lib.hid hend
        clear hend
        go_wp2_with fail
        go_ret2
        exact ⟨ti + 1, M, _, by have := HTI.out; omega, by have := HE.out; omega, HNX.out, rfl, HS5.out⟩
      · have hz : (((rev b (ti + 1) : Nat) : Int) == 0) = false := by
          rw [beq_eq_false_iff_ne]
          have := rev_pos (b := b) (t := ti + 1) (by have := HI.out; omega) (by omega)
          omega
        have HI2 : Hid (ti + 1 < 2 ^ b) := Lib.hid (by have := HI.out; omega)
        by_cases hcn : (count : Int) ≤ (M.length : Int)
        · have hcd : decide ((count : Int) ≤ (M.length : Int)) = true := by simpa using hcn
          have hcd2 : decide (count ≤ M.length) = true := by simpa using hcn
          clear hend
          go_wp2_with fail
          go_ret2
          exact ⟨ti + 1, M, _, by have := HTI.out; omega, by have := HI2.out; omega, HNX.out, rfl, HS5.out⟩
        · have hcd : decide ((count : Int) ≤ (M.length : Int)) = false := by simpa using hcn
          have hcd2 : decide (count ≤ M.length) = false := by simpa using hcn
          clear hend
          go_wp2_with fail
          go_roundw
          case rel => exact ⟨i + 1, M, u5, c5, by simp, by rw [show tt + (i + 1) = ti + 1 by have := HTI.out; omega], rfl, by omega, by rw [show tt + (i + 1) = ti + 1 by have := HTI.out; omega]; exact HI2, by rw [show tt + (i + 1) = ti + 1 by have := HTI.out; omega]; exact HNX, HS5⟩
          case measure => simp [RowKit.intOf]; omega
    · have hld : decide ((i : Int) < 10 * (count : Int)) = false := by simp; omega
      go_wp2_with fail
      go_ret2
      exact ⟨tt + i, L, _, by omega, by have := HI.out; omega, HL.out, rfl, HSi.out⟩
end Go.Sl.DI64
