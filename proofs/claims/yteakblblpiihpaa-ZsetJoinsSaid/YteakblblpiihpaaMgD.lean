/-
  Sorted sets: Count; Range.
  Sorted sets: ranks between bounds; Count; Range.
  Sorted sets: Drop of members; Add.
  Sorted sets: cut from either end; Drop of members; Add.
  Sorted sets: slices.Reverse of a row of pairs; cut, from either end.
  Sorted sets that nobody made: ready makes them.
  Sorted sets: cut from the front, All.
  Sorted sets: Rank.
  Sorted sets: Put.
  Sorted sets: Score, Put.
  Sorted sets: the order of pairs; a set's two parts in memory; New, ready, Len, Score.
-/
import Derived.Test.YteakblblpiihpaaMgC
import Derived.Test.YteakblblpiihpaaMgA
import Derived.Sort.LotA
import Derived.Sort.Walk0
import Derived.BigRegion
import Derived.Deep.RegionHeld3
import Derived.Deep.RegionWith
import Derived.Laws.StructEq
import Derived.Deep.DeepCutAuto
/-! ### Zs -/
namespace Go.Sl
open Go.RowKit Go.Proofs Go.Sl Go.Proofs.YteakblblpiihpaaW.PrintWords Go.Proofs.Yteakblblpiihpaa.PZs Go.Sl.DI64
set_option linter.unusedVariables false
set_option linter.unusedSimpArgs false
set_option maxRecDepth 100000

theorem bl_eq (x y : List UInt8) : Op.bytesLess x y = decide (x < y) := Go.Proofs.bytesLess_eq x y
theorem ltS_iff (a b : Sc) : ltS a b = true ↔ a.f1 < b.f1 ∨ (a.f1 = b.f1 ∧ a.f0.toList < b.f0.toList) := by
  unfold ltS
  rw [bl_eq]
  simp
theorem ltS_no (a b : Sc) : ltS a b = false ↔ b.f1 < a.f1 ∨ (a.f1 = b.f1 ∧ ¬ a.f0.toList < b.f0.toList) := by
  rw [← Bool.not_eq_true, ltS_iff]
  constructor
  · intro h
    by_cases e : a.f1 = b.f1
    · exact .inr ⟨e, fun h2 => h (.inr ⟨e, h2⟩)⟩
    · exact .inl (by have := fun h2 => h (.inl h2); omega)
  · rintro (h | ⟨h1, h2⟩) (h3 | ⟨h3, h4⟩)
    · omega
    · omega
    · omega
    · exact h2 h4
theorem ltS_irrefl (a : Sc) : ltS a a = false := (ltS_no a a).2 (.inr ⟨rfl, List.lt_irrefl _⟩)
theorem ltS_trans {a b c : Sc} (h1 : ltS a b = true) (h2 : ltS b c = true) : ltS a c = true := by
  rw [ltS_iff] at *
  rcases h1 with h1 | ⟨h1, h3⟩ <;> rcases h2 with h2 | ⟨h2, h4⟩
  · left; omega
  · left; omega
  · left; omega
  · right; exact ⟨by omega, List.lt_trans h3 h4⟩
/-- 'a is not ahead of b': transitive. -/
theorem le_trans' {a b c : Sc} (h1 : ltS a b = false) (h2 : ltS b c = false) : ltS a c = false := by
  rw [ltS_no] at *
  rcases h1 with h1 | ⟨h1, h3⟩ <;> rcases h2 with h2 | ⟨h2, h4⟩
  · left; omega
  · left; omega
  · left; omega
  · right; exact ⟨by omega, List.not_lt.2 (List.le_trans (List.not_lt.1 h4) (List.not_lt.1 h3))⟩
theorem lt_asymm' {a b : Sc} (h : ltS a b = true) : ltS b a = false := by
  cases h2 : ltS b a with
  | false => rfl
  | true => have := ltS_trans h h2; rw [ltS_irrefl] at this; cases this
theorem not_of_lt {a x b : Sc} (h1 : ltS x b = true) (h2 : ltS a b = false) : ltS a x = false := by
  cases h : ltS a x with
  | false => rfl
  | true => have := ltS_trans h h1; rw [h2] at this; cases this
theorem ltS_total {a b : Sc} (h1 : ltS a b = false) (h2 : ltS b a = false) : a = b := by
  rw [ltS_no] at *
  have e1 : a.f1 = b.f1 := by rcases h1 with h | ⟨h, _⟩ <;> rcases h2 with h' | ⟨h', _⟩ <;> omega
  have e2 : a.f0.toList = b.f0.toList := by
    rcases h1 with h | ⟨_, h⟩
    · omega
    · rcases h2 with h' | ⟨_, h'⟩
      · omega
      · exact List.le_antisymm (List.not_lt.1 h') (List.not_lt.1 h)
  have e3 : a.f0 = b.f0 := by
    rw [ByteArray.toList_eq, ByteArray.toList_eq] at e2
    cases ha : a.f0; cases hb : b.f0
    rw [ha, hb] at e2
    simp only [ByteArray.mk.injEq]
    exact Array.toList_inj.1 e2
  cases a; cases b
  simp only at e1 e3
  rw [e1, e3]


/-- In order, each member once. -/
structure ZOk (l : List Sc) : Prop where
  ord : l.Pairwise fun a b => ltS a b = true
  ks : (l.map (·.f0)).Nodup
  sz : ∀ x ∈ l, x.f0.size ≤ maxLen
  big : l.length ≤ 1000000
theorem drop_no {l : List Sc} {x : Sc} (h : l.Pairwise fun a b => ltS a b = true) : ∀ y ∈ l.dropWhile (fun y => ltS y x), ltS y x = false := by
  induction l with
  | nil => simp
  | cons a l ih =>
    rw [List.pairwise_cons] at h
    intro y hy
    by_cases ha : ltS a x = true
    · rw [List.dropWhile_cons_of_pos (by simpa using ha)] at hy
      exact ih h.2 y hy
    · rw [List.dropWhile_cons_of_neg (by simpa using ha)] at hy
      rcases List.mem_cons.1 hy with rfl | hy
      · simpa using ha
      · cases hq : ltS y x with
        | false => rfl
        | true => exact absurd (ltS_trans (h.1 y hy) hq) ha
theorem take_yes {l : List Sc} {x : Sc} : ∀ y ∈ l.takeWhile (fun y => ltS y x), ltS y x = true := by
  induction l with
  | nil => simp
  | cons a l ih =>
    intro y hy
    by_cases ha : ltS a x = true
    · rw [List.takeWhile_cons_of_pos (by simpa using ha)] at hy
      rcases List.mem_cons.1 hy with rfl | hy
      · exact ha
      · exact ih y hy
    · rw [List.takeWhile_cons_of_neg (by simpa using ha)] at hy
      cases hy
/-- A table's pairs. -/
def prs (l : List Sc) : List (ByteArray × Value) := l.map fun x => (x.f0, .int .i64 x.f1)
/-- A sorted set. -/
def zs (s : Nat) (l : List Sc) : HP := ex fun q : (Nat × Nat) × Int × Int × SN × List SN × Lk => wh (ZOk l ∧ SkOk q.2.2.2.1 q.2.2.2.2.1 q.2.2.2.2.2 ∧ q.2.2.2.2.1.map SN.sc = l)
  (pts s (.cells #[pt q.1.1, pt q.1.2] 28 (0, 0)) * (dtb q.1.1 q.2.1 (prs l) * skl q.1.2 q.2.2.1 q.2.2.2.1 q.2.2.2.2.1 q.2.2.2.2.2 q.2.2.2.2.1.length))
theorem Sat.zs_open {w0 w : World} {s : Nat} {l : List Sc} {R : HP} (S : Sat w0 w (zs s l * R)) : ∃ t o sd sd2 hd xs L, ZOk l ∧ SkOk hd xs L ∧ xs.map SN.sc = l ∧ Sat w0 w (pts s (.cells #[pt t, pt o] 28 (0, 0)) * (dtb t sd (prs l) * (skl o sd2 hd xs L xs.length * R))) := by
  obtain ⟨⟨⟨t, o⟩, sd, sd2, hd, xs, L⟩, S⟩ := S.ex1
  obtain ⟨⟨h1, h2, h3⟩, S⟩ := S.wh1
  exact ⟨t, o, sd, sd2, hd, xs, L, h1, h2, h3, S.cong (by simp only; ac_rfl)⟩
theorem Sat.zs_shut {w0 w : World} {s t o : Nat} {sd sd2 : Int} {hd : SN} {xs : List SN} {L : Lk} {l : List Sc} {R : HP} (h1 : ZOk l) (h2 : SkOk hd xs L) (h3 : xs.map SN.sc = l)
    (S : Sat w0 w (pts s (.cells #[pt t, pt o] 28 (0, 0)) * (dtb t sd (prs l) * (skl o sd2 hd xs L xs.length * R)))) : Sat w0 w (zs s l * R) :=
  Sat.mk_ex1 ((t, o), sd, sd2, hd, xs, L) (Sat.mk_wh1 ⟨h1, h2, h3⟩ (S.cong (by simp only; ac_rfl)))
/-- 'New(seed)'. -/
theorem zsNew {w0 w : World} {seed : Int} {R : HP} (S : Sat w0 w R) :
    Calls Try.prog 15 #[.int .u64 seed] w fun en w' => ∃ s, en = .returned (pt s) ∧ Sat w0 w' (zs s [] * R) := by
  have HS := Lib.hid S
  clear S
  go_enter Try.func15, Try.ntmps15
  go_wp2_with fail
  refine (dtbNew (seed := seed) HS.out).mono ?_
  rintro en w1 ⟨t, rfl, S1⟩
  have HS1 := Lib.hid S1
  clear S1 HS
  go_wp2_with fail
  refine (skNew (seed := seed) HS1.out).mono ?_
  rintro en w2 ⟨o, hd, L, rfl, hok, S2⟩
  have HS2 := Lib.hid S2
  have HOK := Lib.hid hok
  clear S2 HS1 hok
  go_wp2_with fail
  go_ret
  refine ⟨w2.heap.size, rfl, Sat.zs_shut (t := t) (o := o) (sd := seed) (sd2 := seed) ⟨List.Pairwise.nil, by simp, by simp, by simp⟩ HOK.out rfl ?_⟩
  exact (HS2.out.alloc _).cong (by unfold prs; simp only [List.map_nil, List.length_nil]; ac_rfl)
theorem zsReady {w0 w : World} {s : Nat} {l : List Sc} {R : HP} (S : Sat w0 w (zs s l * R)) : Calls Try.prog 37 #[pt s] w fun en w' => en = .returned (.bool true) ∧ w = w' := by
  obtain ⟨t, o, sd, sd2, hd, xs, L, h1, h2, h3, S1⟩ := S.zs_open
  obtain ⟨c0, c1, -⟩ := blk2 S1.blk
  clear S S1
  go_enter Try.func37, Try.ntmps37
  go_wp2_with fail
  go_ret
  exact ⟨rfl, rfl⟩
theorem zsLen {w0 w : World} {s : Nat} {l : List Sc} {R : HP} (S : Sat w0 w (zs s l * R)) : Calls Try.prog 14 #[pt s] w fun en w' => en = .returned (.int .i64 l.length) ∧ w = w' := by
  obtain ⟨t, o, sd, sd2, hd, xs, L, h1, h2, h3, S1⟩ := S.zs_open
  obtain ⟨c0, c1, -⟩ := blk2 S1.blk
  have HS := Lib.hid S
  have HS1 := Lib.hid S1.p2
  have HL := Lib.hid (show (prs l).length = l.length by simp [prs])
  clear S S1
  go_enter Try.func14, Try.ntmps14
  go_wp2_with fail
  refine (zsReady HS.out).mono ?_
  rintro en w' ⟨rfl, rfl⟩
  go_wp2_with fail
  refine (dtbLen HS1.out).mono ?_
  rintro en w' ⟨rfl, rfl⟩
  rw [HL.out]
  go_wp2_with fail
  go_ret
  exact ⟨rfl, rfl⟩
end Go.Sl
/-! ### ZsP -/
namespace Go.Sl
open Go.RowKit Go.Proofs Go.Sl Go.Proofs.YteakblblpiihpaaW.PrintWords Go.Proofs.Yteakblblpiihpaa.PZs Go.Sl.DI64
set_option linter.unusedVariables false
set_option linter.unusedSimpArgs false
set_option maxRecDepth 100000

/-- A member's score. -/
def findS (l : List Sc) (m : ByteArray) : Option Int := (l.find? fun x => decide (x.f0 = m)).map (·.f1)
theorem lk_prs (l : List Sc) (m : ByteArray) : lk (prs l) m = (findS l m).map (Value.int .i64) := by
  unfold lk prs findS
  induction l with
  | nil => rfl
  | cons x l ih =>
    simp only [List.map_cons, List.find?_cons]
    by_cases h : x.f0 = m
    · simp [h]
    · simpa [h] using ih
abbrev scoreV (l : List Sc) (m : ByteArray) : Value := .tuple #[.int .i64 ((findS l m).getD 0), .bool (findS l m).isSome]
theorem getV_prs (l : List Sc) (m : ByteArray) : getV (prs l) m = scoreV l m := by
  unfold getV scoreV
  rw [lk_prs]
  cases findS l m <;> rfl
/-- 'Score'. -/
theorem zsScore {w0 w : World} {s : Nat} {l : List Sc} {m : ByteArray} {R : HP} (hm : m.size ≤ maxLen) (S : Sat w0 w (zs s l * R)) :
    Calls Try.prog 10 #[pt s, .string m] w fun en w' => en = .returned (scoreV l m) ∧ Sat w0 w' (zs s l * R) := by
  have HS := Lib.hid S
  have HM := Lib.hid hm
  clear S hm
  go_enter Try.func10, Try.ntmps10
  go_wp2_with fail
  refine (zsLen HS.out).mono ?_
  rintro en w' ⟨rfl, rfl⟩
  by_cases h0 : l.length = 0
  · have h0d : ((l.length : Int) == 0) = true := by simp [h0]
    have HF := Lib.hid (show findS l m = none by rw [List.eq_nil_of_length_eq_zero h0]; rfl)
    clear h0
    go_wp2_with fail
    go_ret2
    exact ⟨by unfold scoreV; rw [HF.out]; rfl, HS.out⟩
  · have h0d : ((l.length : Int) == 0) = false := by rw [beq_eq_false_iff_ne]; omega
    clear h0
    obtain ⟨t, o, sd, sd2, hd, xs, L, h1, h2, h3, S1⟩ := HS.out.zs_open
    obtain ⟨c0, c1, -⟩ := blk2 S1.blk
    have HS1 := Lib.hid S1.p2
    have H1 := Lib.hid h1
    have H2 := Lib.hid h2
    have H3 := Lib.hid h3
    clear S1 HS h1 h2 h3
    go_wp2_with fail
    refine (dtbGet HM.out HS1.out).mono ?_
    rintro en w1 ⟨rfl, S2⟩
    rw [getV_prs]
    have HS2 := Lib.hid (Sat.zs_shut H1.out H2.out H3.out S2.p2)
    clear S2 HS1 c0 c1
    go_wp2_with fail
    go_ret2
    exact ⟨rfl, HS2.out⟩
/-- Without a member; with a pair at its place. -/
def outS (l : List Sc) (m : ByteArray) : List Sc := l.filter fun x => !decide (x.f0 = m)
def insS (l : List Sc) (x : Sc) : List Sc := l.takeWhile (fun y => ltS y x) ++ x :: l.dropWhile (fun y => ltS y x)
def putS (l : List Sc) (x : Sc) : List Sc := insS (outS l x.f0) x
theorem prs_era (l : List Sc) (m : ByteArray) : era (prs l) m = prs (outS l m) := by
  unfold era prs outS
  rw [List.filter_map]
  rfl
theorem out_none {l : List Sc} {m : ByteArray} (h : findS l m = none) : outS l m = l := by
  unfold outS
  refine List.filter_eq_self.2 fun x hx => ?_
  unfold findS at h
  rw [Option.map_eq_none_iff, List.find?_eq_none] at h
  simpa using h x hx
theorem out_ok {l : List Sc} (h : ZOk l) (m : ByteArray) : ZOk (outS l m) where
  ord := h.ord.sublist List.filter_sublist
  ks := h.ks.sublist (List.filter_sublist.map _)
  sz := fun x hx => h.sz x (List.mem_filter.1 hx).1
  big := Nat.le_trans (List.length_filter_le _ _) h.big
theorem ins_perm_S (l : List Sc) (x : Sc) : (insS l x).Perm (x :: l) := by
  unfold insS
  refine List.perm_middle.trans ?_
  rw [List.takeWhile_append_dropWhile]
/-- A pair that is there, and those on its sides. -/
theorem split_S {l : List Sc} {m : ByteArray} {n : Int} (h : ZOk l) (hf : findS l m = some n) : ∃ A B, l = A ++ (⟨m, n⟩ : Sc) :: B ∧ outS l m = A ++ B ∧ (∀ y ∈ A, ltS y ⟨m, n⟩ = true) ∧ ∀ y ∈ (⟨m, n⟩ : Sc) :: B, ltS y ⟨m, n⟩ = false := by
  unfold findS at hf
  obtain ⟨x, hx, rfl⟩ := Option.map_eq_some_iff.1 hf
  have hxm : x.f0 = m := by simpa using List.find?_some hx
  subst hxm
  obtain ⟨A, B, e⟩ := List.append_of_mem (List.mem_of_find?_eq_some hx)
  have hk := h.ks
  have ho := h.ord
  rw [e] at hk ho
  rw [List.map_append, List.map_cons, List.nodup_append] at hk
  rw [List.pairwise_append, List.pairwise_cons] at ho
  have hkB := List.nodup_cons.1 hk.2.1
  refine ⟨A, B, e, ?_, fun y hy => ho.2.2 y hy x (by simp), fun y hy => ?_⟩
  · rw [e]
    unfold outS
    rw [List.filter_append, List.filter_cons_of_neg (by simp)]
    rw [List.filter_eq_self.2 (fun y hy => ?_), List.filter_eq_self.2 (fun y hy => ?_)]
    · have : y.f0 ≠ x.f0 := fun e' => hkB.1 (List.mem_map.2 ⟨y, hy, e'⟩)
      simpa using this
    · have : y.f0 ≠ x.f0 := hk.2.2 y.f0 (List.mem_map.2 ⟨y, hy, rfl⟩) x.f0 (by simp)
      simpa using this
  · rcases List.mem_cons.1 hy with rfl | hy
    · exact ltS_irrefl _
    · cases hq : ltS y x with
      | false => rfl
      | true => have := ltS_trans (ho.2.1.1 y hy) hq; rw [ltS_irrefl] at this; cases this
theorem ins_ok {l : List Sc} {x : Sc} (h : ZOk l) (hx : ∀ y ∈ l, y.f0 ≠ x.f0) (hs : x.f0.size ≤ maxLen) (hb : l.length < 1000000) : ZOk (insS l x) where
  ord := by
    have e := List.takeWhile_append_dropWhile (p := fun y => ltS y x) (l := l)
    have ho := h.ord
    rw [← e, List.pairwise_append] at ho
    unfold insS
    rw [List.pairwise_append, List.pairwise_cons]
    refine ⟨ho.1, ⟨fun b hb => ?_, ho.2.1⟩, fun a ha b hb => ?_⟩
    · have h1 := drop_no h.ord b hb
      cases hq : ltS x b with
      | true => rfl
      | false =>
        have := ltS_total h1 hq
        exact absurd (by rw [this]) (hx b ((List.dropWhile_sublist _).subset hb))
    · rcases List.mem_cons.1 hb with rfl | hb
      · exact take_yes a ha
      · exact ho.2.2 a ha b hb
  ks := by
    refine (((ins_perm_S l x).map (·.f0)).nodup_iff).2 ?_
    rw [List.map_cons, List.nodup_cons]
    refine ⟨fun hm => ?_, h.ks⟩
    obtain ⟨y, hy, e⟩ := List.mem_map.1 hm
    exact hx y hy e
  sz := fun y hy => by
    rcases List.mem_cons.1 ((ins_perm_S l x).mem_iff.1 hy) with rfl | hy
    · exact hs
    · exact h.sz y hy
  big := by rw [(ins_perm_S l x).length_eq]; simp; omega
theorem out_not {l : List Sc} {m : ByteArray} : ∀ y ∈ outS l m, y.f0 ≠ m := fun y hy => by
  have := (List.mem_filter.1 hy).2
  simpa using this
end Go.Sl
/-! ### ZsQ -/
namespace Go.Sl
open Go.RowKit Go.Proofs Go.Sl Go.Proofs.YteakblblpiihpaaW.PrintWords Go.Proofs.Yteakblblpiihpaa.PZs Go.Sl.DI64
set_option linter.unusedVariables false
set_option linter.unusedSimpArgs false
set_option maxRecDepth 100000

/-- The list's 'Drop', of a pair that is there. -/
theorem skDropL {w0 w : World} {o : Nat} {seed : Int} {hd : SN} {xs : List SN} {L : Lk} {l A B : List Sc} {x : Sc} {R : HP} (hl : xs.map SN.sc = l) (he : l = A ++ x :: B) (hA : ∀ y ∈ A, ltS y x = true) (hB : ∀ y ∈ x :: B, ltS y x = false) (hok : SkOk hd xs L) (S : Sat w0 w (skl o seed hd xs L xs.length * R)) :
    Calls Try.prog 39 #[pt o, .agg #[.string x.f0, .int .i64 x.f1]] w fun en w' => en = .returned (.bool true) ∧ ∃ xs' L', xs'.map SN.sc = A ++ B ∧ SkOk hd xs' L' ∧ Sat w0 w' (skl o seed hd xs' L' xs'.length * R) := by
  rw [he] at hl
  obtain ⟨XA, XB', rfl, hXA, hXB'⟩ := List.map_eq_append_iff.1 hl
  obtain ⟨y, XB, rfl, hy, hXB⟩ := List.map_eq_cons_iff.1 hXB'
  have hb := hok.big
  rw [show (XA ++ y :: XB).length = (XA ++ XB).length + 1 by simp; omega] at S hb
  refine (skDrop_one (y := y) (x := x) (n := (XA ++ XB).length) (by omega) hy hok (fun z hz => hA _ (by rw [← hXA]; exact List.mem_map.2 ⟨z, hz, rfl⟩)) (fun z hz => hB _ ?_) S).mono ?_
  · rcases List.mem_cons.1 hz with rfl | hz
    · rw [hy]; simp
    · rw [← hXB]; exact List.mem_cons_of_mem _ (List.mem_map.2 ⟨z, hz, rfl⟩)
  · rintro en w' ⟨rfl, L', h1, S'⟩
    exact ⟨rfl, XA ++ XB, L', by rw [List.map_append, hXA, hXB], h1, S'⟩
/-- The list's 'Put', of a pair whose member is not there. -/
theorem skPutL {w0 w : World} {o : Nat} {seed : Int} {hd : SN} {xs : List SN} {L : Lk} {l : List Sc} {x : Sc} {R : HP} (hl : xs.map SN.sc = l) (hz : ZOk l) (hx : ∀ y ∈ l, y.f0 ≠ x.f0) (hs : x.f0.size ≤ maxLen) (hok : SkOk hd xs L) (S : Sat w0 w (skl o seed hd xs L xs.length * R)) :
    Calls Try.prog 40 #[pt o, .agg #[.string x.f0, .int .i64 x.f1]] w fun en w' => en = .returned (.bool true) ∧ ∃ xs' L', xs'.map SN.sc = insS l x ∧ SkOk hd xs' L' ∧ Sat w0 w' (skl o seed hd xs' L' xs'.length * R) := by
  have hsp := List.takeWhile_append_dropWhile (p := fun y => ltS y x) (l := l)
  rw [← hsp] at hl
  obtain ⟨XA, XB, rfl, hXA, hXB⟩ := List.map_eq_append_iff.1 hl
  have hlen : (XA ++ XB).length = l.length := by
    have := congrArg List.length hl
    rw [List.length_map, hsp] at this
    exact this
  have hbg := hz.big
  have hh : headIs XB x = false := by
    cases XB with
    | nil => rfl
    | cons y XB =>
      show eqS y.sc x = false
      cases hq : eqS y.sc x with
      | false => rfl
      | true =>
        have e := eqS_iff.1 hq
        have hm : y.sc ∈ l := by
          rw [← hsp, ← hXB]; simp
        exact absurd (by rw [e]) (hx _ hm)
  refine (skPut_new (x := x) (n := (XA ++ XB).length) rfl (by omega) hs hh hok (fun z hz' => take_yes (l := l) _ (by rw [← hXA]; exact List.mem_map.2 ⟨z, hz', rfl⟩)) (fun z hz' => drop_no hz.ord _ (by rw [← hXB]; exact List.mem_map.2 ⟨z, hz', rfl⟩)) S).mono ?_
  rintro en w' ⟨rfl, nw, L', h1, h2, S'⟩
  refine ⟨rfl, XA ++ nw :: XB, L', ?_, h2, ?_⟩
  · rw [List.map_append, List.map_cons, hXA, hXB, h1]; rfl
  · rw [show (XA ++ nw :: XB).length = (XA ++ XB).length + 1 by simp; omega]
    exact S'
theorem getV_none {l : List Sc} {m : ByteArray} (h : findS l m = none) : getV (prs l) m = .tuple #[.int .i64 0, .bool false] := by unfold getV; rw [lk_prs, h]; rfl
theorem getV_some {l : List Sc} {m : ByteArray} {v : Int} (h : findS l m = some v) : getV (prs l) m = .tuple #[.int .i64 v, .bool true] := by unfold getV; rw [lk_prs, h]; rfl
theorem prs_put (l : List Sc) (m : ByteArray) (n : Int) : (ins (prs l) m (.int .i64 n)).Perm (prs (putS l ⟨m, n⟩)) := by
  unfold ins
  rw [prs_era]
  exact ((ins_perm_S (outS l m) ⟨m, n⟩).map (fun x : Sc => (x.f0, Value.int .i64 x.f1))).symm
set_option maxHeartbeats 4000000 in
/-- 'Put'. -/
theorem zsPut {w0 w : World} {s : Nat} {l : List Sc} {m : ByteArray} {n : Int} {R : HP} (hm : m.size ≤ maxLen) (hb : l.length < 1000000) (S : Sat w0 w (zs s l * R)) :
    Calls Try.prog 9 #[pt s, .string m, .int .i64 n] w fun en w' => en = .returned (.bool (!(findS l m).isSome)) ∧ Sat w0 w' (zs s (putS l ⟨m, n⟩) * R) := by
  generalize hbn : (!(findS l m).isSome) = bn
  have HBN := Lib.hid hbn
  clear hbn
  have HS := Lib.hid S
  have HM := Lib.hid hm
  have HB := Lib.hid hb
  clear S hm hb
  go_enter Try.func9, Try.ntmps9
  go_wp2_with fail
  refine (zsReady HS.out).mono ?_
  rintro en w' ⟨rfl, rfl⟩
  obtain ⟨t, o, sd, sd2, hd, xs, L, h1, h2, h3, S1⟩ := HS.out.zs_open
  obtain ⟨c0, c1, -⟩ := blk2 S1.blk
  have HS1 := Lib.hid S1.p2
  have H1 := Lib.hid h1
  have H2 := Lib.hid h2
  have H3 := Lib.hid h3
  clear S1 HS h1 h2 h3
  go_wp2_with fail
  refine (dtbGet HM.out HS1.out).mono ?_
  rintro en w1 ⟨rfl, S2⟩
  obtain ⟨c0, c1, -⟩ := blk2 S2.p2.blk
  have HS2 := Lib.hid S2.p3
  clear S2 HS1
  have hlenb : (prs l).length = l.length := by simp [prs]
  have HPL := Lib.hid hlenb
  clear hlenb
  cases hf : findS l m with
  | none =>
    rw [getV_none hf]
    have HF := Lib.hid hf
    clear hf
    go_wp2_with fail
    have ho : outS l m = l := out_none HF.out
    have hno : ∀ y ∈ l, y.f0 ≠ m := fun y hy => out_not y (by rw [ho]; exact hy)
    refine (skPutL (x := ⟨m, n⟩) H3.out H1.out hno HM.out H2.out HS2.out).mono ?_
    rintro en w2 ⟨rfl, xs', L', k1, k2, S3⟩
    obtain ⟨c0, c1, -⟩ := blk2 S3.p3.blk
    have HO := Lib.hid ho
    have HNO := Lib.hid hno
    have HK1 := Lib.hid k1
    have HK2 := Lib.hid k2
    have HS3 := Lib.hid S3.p2
    clear S3 k1 k2 ho hno HS2
    go_wp2_with fail
    refine (dtbPut n HM.out (by rw [HPL.out]; have := HB.out; omega) HS3.out).mono ?_
    rintro en w3 ⟨rfl, S4⟩
    have HS4 := Lib.hid S4
    clear S4 HS3 c0 c1
    go_wp2_with fail
    go_ret
    refine ⟨by rw [lk_prs, HF.out, ← HBN.out, HF.out]; rfl, ?_⟩
    refine Sat.zs_shut (ins_ok (out_ok H1.out m) (fun y hy => out_not y hy) HM.out (by rw [HO.out]; exact HB.out)) HK2.out (by rw [HK1.out]; unfold putS; simp only; rw [HO.out]) (t := t) (o := o) (sd := sd) (sd2 := sd2) ?_
    rw [dtb_perm (prs_put l m n)] at HS4
    exact HS4.out.cong (by ac_rfl)
  | some was =>
    rw [getV_some hf]
    obtain ⟨A, B, e1, e2, e3, e4⟩ := split_S H1.out hf
    have HF := Lib.hid hf
    have HE2 := Lib.hid e2
    clear hf
    go_wp2_with fail
    refine (skDropL (x := ⟨m, was⟩) H3.out e1 e3 e4 H2.out HS2.out).mono ?_
    rintro en w2 ⟨rfl, xs1, L1, j1, j2, S3⟩
    clear e1 e2 e3 e4 c0 c1 HS2
    obtain ⟨c0, c1, -⟩ := blk2 S3.p3.blk
    have HS3 := Lib.hid S3
    have HJ1 : Hid (xs1.map SN.sc = outS l m) := Lib.hid (j1.trans HE2.out.symm)
    have HJ2 := Lib.hid j2
    clear S3 j1 j2
    go_wp2_with fail
    refine (skPutL (x := ⟨m, n⟩) HJ1.out (out_ok H1.out m) (fun y hy => out_not y hy) HM.out HJ2.out HS3.out).mono ?_
    rintro en w3 ⟨rfl, xs', L', k1, k2, S4⟩
    clear c0 c1 HS3
    obtain ⟨c0, c1, -⟩ := blk2 S4.p3.blk
    have HK1 := Lib.hid k1
    have HK2 := Lib.hid k2
    have HS4 := Lib.hid S4.p2
    clear S4 k1 k2
    go_wp2_with fail
    refine (dtbPut n HM.out (by rw [HPL.out]; have := HB.out; omega) HS4.out).mono ?_
    rintro en w4 ⟨rfl, S5⟩
    have HS5 := Lib.hid S5
    clear S5 HS4 c0 c1
    go_wp2_with fail
    go_ret
    refine ⟨by rw [lk_prs, HF.out, ← HBN.out, HF.out]; rfl, ?_⟩
    refine Sat.zs_shut (ins_ok (out_ok H1.out m) (fun y hy => out_not y hy) HM.out (by have := List.length_filter_le (fun x : Sc => !decide (x.f0 = m)) l; exact Nat.lt_of_le_of_lt this HB.out)) HK2.out HK1.out (t := t) (o := o) (sd := sd) (sd2 := sd2) ?_
    rw [dtb_perm (prs_put l m n)] at HS5
    exact HS5.out.cong (by ac_rfl)
end Go.Sl
/-! ### ZsR -/
namespace Go.Sl
open Go.RowKit Go.Proofs Go.Sl Go.Proofs.YteakblblpiihpaaW.PrintWords Go.Proofs.Yteakblblpiihpaa.PZs Go.Sl.DI64
set_option linter.unusedVariables false
set_option linter.unusedSimpArgs false
set_option maxRecDepth 100000

/-- A member's rank, from either end; -1: it is not there. -/
def rkS (l : List Sc) (m : ByteArray) (back : Bool) : Int := match findS l m with
  | none => -1
  | some _ => if back then l.length - 1 - (l.findIdx fun x => decide (x.f0 = m) : Nat) else (l.findIdx fun x => decide (x.f0 = m) : Nat)
theorem idx_split {l A B : List Sc} {x : Sc} (h : ZOk l) (e : l = A ++ x :: B) : (l.findIdx fun y => decide (y.f0 = x.f0)) = A.length := by
  have hk := h.ks
  rw [e, List.map_append, List.map_cons, List.nodup_append] at hk
  rw [e, List.findIdx_append, if_neg]
  · simp [List.findIdx_cons]
  · simp only [Nat.not_lt]
    rw [List.findIdx_eq_length.2]
    · exact Nat.le_refl _
    · intro y hy
      have : y.f0 ≠ x.f0 := hk.2.2 y.f0 (List.mem_map.2 ⟨y, hy, rfl⟩) x.f0 (by simp)
      simpa using this
set_option maxHeartbeats 4000000 in
/-- 'Rank'. -/
theorem zsRank {w0 w : World} {s : Nat} {l : List Sc} {m : ByteArray} {back : Bool} {R : HP} (hm : m.size ≤ maxLen) (S : Sat w0 w (zs s l * R)) :
    Calls Try.prog 12 #[pt s, .string m, .bool back] w fun en w' => en = .returned (.int .i64 (rkS l m back)) ∧ Sat w0 w' (zs s l * R) := by
  obtain ⟨rr, hrr⟩ : ∃ rr, rr = rkS l m back := ⟨_, rfl⟩
  rw [← hrr]
  have HRR := Lib.hid hrr
  have HS := Lib.hid S
  have HM := Lib.hid hm
  clear S hm hrr
  go_enter Try.func12, Try.ntmps12
  go_wp2_with fail
  refine (zsScore HM.out HS.out).mono ?_
  rintro en w1 ⟨rfl, S1⟩
  cases hf : findS l m with
  | none =>
    rw [show scoreV l m = .tuple #[.int .i64 0, .bool false] by unfold scoreV; rw [hf]; rfl]
    have HF := Lib.hid hf
    have HS1 := Lib.hid S1
    clear hf S1 HS
    go_wp2_with fail
    go_ret
    exact ⟨by rw [HRR.out]; unfold rkS; rw [HF.out]; rfl, HS1.out⟩
  | some v =>
    rw [show scoreV l m = .tuple #[.int .i64 v, .bool true] by unfold scoreV; rw [hf]; rfl]
    obtain ⟨t, o, sd, sd2, hd, xs, L, h1, h2, h3, S2⟩ := S1.zs_open
    obtain ⟨c0, c1, -⟩ := blk2 S2.blk
    obtain ⟨A, B, e1, e2, e3, e4⟩ := split_S h1 hf
    have hidx := idx_split h1 e1
    have HF := Lib.hid hf
    have HIDX := Lib.hid hidx
    have hlen : (A.length : Int) < (l.length : Int) := by rw [e1]; simp; omega
    have hbig : (l.length : Int) ≤ 1000000 := by have := h1.big; omega
    have hl2 : xs.map SN.sc = A ++ (⟨m, v⟩ : Sc) :: B := h3.trans e1
    obtain ⟨XA, XB', hx, hXA, hXB'⟩ := List.map_eq_append_iff.1 hl2
    obtain ⟨y, XB, hx2, hy, hXB⟩ := List.map_eq_cons_iff.1 hXB'
    subst hx2
    subst hx
    have hAl : XA.length = A.length := by rw [← hXA, List.length_map]
    have hA' : ∀ z ∈ XA, ltS z.sc ⟨m, v⟩ = true := fun z hz => e3 _ (by rw [← hXA]; exact List.mem_map.2 ⟨z, hz, rfl⟩)
    have hB' : ∀ z ∈ y :: XB, ltS z.sc ⟨m, v⟩ = false := fun z hz => e4 _ (by
      rcases List.mem_cons.1 hz with rfl | hz
      · rw [hy]; simp
      · rw [← hXB]; exact List.mem_cons_of_mem _ (List.mem_map.2 ⟨z, hz, rfl⟩))
    have hri : rankI XA (y :: XB) ⟨m, v⟩ = (A.length : Int) := by
      unfold rankI
      rw [show headIs (y :: XB) ⟨m, v⟩ = true from eqS_iff.2 hy, if_pos rfl, hAl]
    have HRI := Lib.hid hri
    have HA := Lib.hid hA'
    have HB := Lib.hid hB'
    have H1 := Lib.hid h1
    have H2 := Lib.hid h2
    have H3 := Lib.hid h3
    have HS2 := Lib.hid S2.p3
    clear S1 S2 HS h1 h2 h3 e1 e2 e3 e4 hidx hf hl2 hXA hXB' hy hXB hAl hA' hB' hri
    go_wp2_with fail
    refine (skRank (x := ⟨m, v⟩) rfl H2.out HA.out HB.out HS2.out).mono ?_
    rintro en w2 ⟨rfl, S3⟩
    rw [HRI.out]
    have HS3 := Lib.hid (Sat.zs_shut (t := t) (o := o) (sd := sd) (sd2 := sd2) H1.out H2.out H3.out (S3.p2.cong (by ac_rfl)))
    clear S3 HS2 c0 c1
    cases back with
    | false =>
      go_wp2_with fail
      go_ret
      exact ⟨by rw [HRR.out]; unfold rkS; rw [HF.out, HIDX.out]; rfl, HS3.out⟩
    | true =>
      go_wp2_with fail
      refine (zsLen HS3.out).mono ?_
      rintro en w' ⟨rfl, rfl⟩
      go_wp2_with fail
      go_ret
      exact ⟨by rw [HRR.out]; unfold rkS; rw [HF.out, HIDX.out]; rfl, HS3.out⟩
end Go.Sl
/-! ### ZsA -/
namespace Go.Sl
open Go.RowKit Go.Proofs Go.Sl Go.Proofs.YteakblblpiihpaaW.PrintWords Go.Proofs.Yteakblblpiihpaa.PZs Go.Sl.DI64
set_option linter.unusedVariables false
set_option linter.unusedSimpArgs false
set_option maxRecDepth 100000

/-- 'cut', of an empty set. -/
theorem zsCut_nil {w0 w : World} {s : Nat} {a b : Int} {back : Bool} {R : HP} (S : Sat w0 w (zs s [] * R)) :
    Calls Try.prog 42 #[pt s, .int .i64 a, .int .i64 b, .bool back] w fun en w' => en = .returned (.slice none 0 0) ∧ w = w' := by
  have HS := Lib.hid S
  clear S
  go_enter Try.func42, Try.ntmps42
  go_wp2_with fail
  refine (zsLen HS.out).mono ?_
  rintro en w' ⟨rfl, rfl⟩
  go_wp2_with fail
  go_ret
  exact ⟨rfl, rfl⟩
/-- 'cut', of ranks that are there, from the front. -/
theorem zsCut {w0 w : World} {s f t : Nat} {l : List Sc} {R : HP} (hft : f ≤ t) (ht : t < l.length) (S : Sat w0 w (zs s l * R)) :
    Calls Try.prog 42 #[pt s, .int .i64 f, .int .i64 t, .bool false] w fun en w' => ∃ v, en = .returned v ∧ Sat w0 w' (rS v ((l.drop f).take (t + 1 - f)) * (zs s l * R)) := by
  have HS := Lib.hid S
  have h0d : ((l.length : Int) == 0) = false := by rw [beq_eq_false_iff_ne]; omega
  have h1d : decide ((t : Int) < (f : Int)) = false := by simp; omega
  have h1d2 : decide (t < f) = false := by simp; omega
  have HFT := Lib.hid hft
  have HT := Lib.hid ht
  clear S hft ht
  go_enter Try.func42, Try.ntmps42
  go_wp2_with fail
  refine (zsLen HS.out).mono ?_
  rintro en w' ⟨rfl, rfl⟩
  obtain ⟨tb, o, sd, sd2, hd, xs, L, h1, h2, h3, S1⟩ := HS.out.zs_open
  obtain ⟨c0, c1, -⟩ := blk2 S1.blk
  have HS1 := Lib.hid S1.p3
  have H1 := Lib.hid h1
  have H2 := Lib.hid h2
  have H3 := Lib.hid h3
  clear S1 HS h1 h2 h3
  go_wp2_with fail
  refine (skCut HFT.out (by have := congrArg List.length H3.out; rw [List.length_map] at this; rw [this]; exact HT.out) rfl H2.out HS1.out).mono ?_
  rintro en w2 ⟨v, rfl, S2⟩
  have HS2 : Hid (Sat w0 w2 (rS v ((l.drop f).take (t + 1 - f)) * (zs s l * R))) := Lib.hid (by
    rw [List.map_take, List.map_drop, H3.out] at S2
    have := Sat.zs_shut (t := tb) (o := o) (sd := sd) (sd2 := sd2) (R := rS v ((l.drop f).take (t + 1 - f)) * R) H1.out H2.out H3.out (S2.cong (by ac_rfl))
    exact this.p2)
  clear S2 HS1 c0 c1
  go_wp2_with fail
  go_ret
  exact ⟨_, rfl, HS2.out⟩
/-- 'All'. -/
theorem zsAll {w0 w : World} {s : Nat} {l : List Sc} {R : HP} (S : Sat w0 w (zs s l * R)) :
    Calls Try.prog 11 #[pt s] w fun en w' => ∃ v, en = .returned v ∧ Sat w0 w' (rS v l * (zs s l * R)) := by
  have HS := Lib.hid S
  have hbig : (l.length : Int) ≤ 1000000 := by
    obtain ⟨_, _, _, _, _, _, _, h1, _, _, _⟩ := S.zs_open
    have := h1.big
    omega
  clear S
  by_cases h0 : l = []
  · subst h0
    clear hbig
    go_enter Try.func11, Try.ntmps11
    go_wp2_with fail
    refine (zsLen HS.out).mono ?_
    rintro en w' ⟨rfl, rfl⟩
    go_wp2_with fail
    refine (zsCut_nil HS.out).mono ?_
    rintro en w' ⟨rfl, rfl⟩
    go_wp2_with fail
    go_ret
    exact ⟨_, rfl, HS.out.row_nil _ _⟩
  · have hpos := List.length_pos_iff.2 h0
    have HC : Hid ((l.length : Int) - 1 = ((l.length - 1 : Nat) : Int)) := Lib.hid (by omega)
    have HP := Lib.hid hpos
    clear h0 hpos
    go_enter Try.func11, Try.ntmps11
    go_wp2_with fail
    refine (zsLen HS.out).mono ?_
    rintro en w' ⟨rfl, rfl⟩
    go_wp2_with fail
    rw [HC.out]
    refine (zsCut (f := 0) (t := l.length - 1) (by omega) (by have := HP.out; omega) HS.out).mono ?_
    rintro en w2 ⟨v, rfl, S2⟩
    have HS2 := Lib.hid (S2.cong (by rw [List.drop_zero, List.take_of_length_le (by omega)]))
    clear S2 HS
    go_wp2_with fail
    go_ret
    exact ⟨_, rfl, HS2.out⟩
end Go.Sl
/-! ### ZsZ -/
namespace Go.Sl
open Go.RowKit Go.Proofs Go.Sl Go.Proofs.YteakblblpiihpaaW.PrintWords Go.Proofs.Yteakblblpiihpaa.PZs Go.Sl.DI64
set_option linter.unusedVariables false
set_option linter.unusedSimpArgs false
set_option maxRecDepth 100000

/-- A set that nobody made. -/
def zs0 (s : Nat) : HP := pts s (.cells #[.pointer none, .pointer none] 28 (0, 0))
/-- 'ready', of a set that nobody made. -/
theorem zsReady0 {w0 w : World} {s : Nat} {R : HP} (S : Sat w0 w (zs0 s * R)) : Calls Try.prog 37 #[pt s] w fun en w' => en = .returned (.bool true) ∧ Sat w0 w' (zs s [] * R) := by
  unfold zs0 at S
  obtain ⟨c0, c1, -⟩ := blk2 S.blk
  have HS := Lib.hid S
  clear S
  go_enter Try.func37, Try.ntmps37
  go_wp2_with fail
  refine (zsNew (seed := 0) HS.out).mono ?_
  rintro en w1 ⟨s2, rfl, S1⟩
  clear c0 c1 HS
  obtain ⟨t, o, sd, sd2, hd, xs, L, h1, h2, h3, S2⟩ := S1.zs_open
  obtain ⟨d0, d1, -⟩ := blk2 S2.blk
  have S3 := S2.p4
  obtain ⟨c0, c1, cf⟩ := blk2 S3.blk
  have S4 := (S3.setCell (i := 0) (pt t)).setCell (i := 1) (pt o)
  obtain ⟨e0, e1, ef⟩ := blk2 (S3.setCell (i := 0) (pt t)).blk
  have HS4 := Lib.hid S4
  have H1 := Lib.hid h1
  have H2 := Lib.hid h2
  have H3 := Lib.hid h3
  clear S1 S2 S3 S4 h1 h2 h3
  go_wp2_with fail
  go_ret
  refine ⟨rfl, Sat.zs_shut (t := t) (o := o) (sd := sd) (sd2 := sd2) H1.out H2.out H3.out ?_⟩
  exact Sat.drop1 (A := pts s2 (.cells #[pt t, pt o] 28 (0, 0))) (HS4.out.cong (by simp only [List.setIfInBounds_toArray, List.set_cons_succ, List.set_cons_zero]; ac_rfl))
set_option maxHeartbeats 4000000 in
/-- 'Put', into a set that nobody made. -/
theorem zsPut0 {w0 w : World} {s : Nat} {l : List Sc} {m : ByteArray} {n : Int} {R : HP} (hm : m.size ≤ maxLen) (hl : l = []) (S : Sat w0 w (zs0 s * R)) :
    Calls Try.prog 9 #[pt s, .string m, .int .i64 n] w fun en w' => en = .returned (.bool (!(findS l m).isSome)) ∧ Sat w0 w' (zs s (putS l ⟨m, n⟩) * R) := by
  generalize hbn : (!(findS l m).isSome) = bn
  have HBN := Lib.hid hbn
  clear hbn
  have HS := Lib.hid S
  have HM := Lib.hid hm
  have HB : Hid (l.length < 1000000) := Lib.hid (by rw [hl]; simp)
  have HL0 := Lib.hid hl
  clear S hm hl
  go_enter Try.func9, Try.ntmps9
  go_wp2_with fail
  refine (zsReady0 HS.out).mono ?_
  rintro en wz ⟨rfl, S0⟩
  rw [← HL0.out] at S0
  have HS := Lib.hid S0
  clear S0
  obtain ⟨t, o, sd, sd2, hd, xs, L, h1, h2, h3, S1⟩ := HS.out.zs_open
  obtain ⟨c0, c1, -⟩ := blk2 S1.blk
  have HS1 := Lib.hid S1.p2
  have H1 := Lib.hid h1
  have H2 := Lib.hid h2
  have H3 := Lib.hid h3
  clear S1 HS h1 h2 h3
  go_wp2_with fail
  refine (dtbGet HM.out HS1.out).mono ?_
  rintro en w1 ⟨rfl, S2⟩
  obtain ⟨c0, c1, -⟩ := blk2 S2.p2.blk
  have HS2 := Lib.hid S2.p3
  clear S2 HS1
  have hlenb : (prs l).length = l.length := by simp [prs]
  have HPL := Lib.hid hlenb
  clear hlenb
  cases hf : findS l m with
  | none =>
    rw [getV_none hf]
    have HF := Lib.hid hf
    clear hf
    go_wp2_with fail
    have ho : outS l m = l := out_none HF.out
    have hno : ∀ y ∈ l, y.f0 ≠ m := fun y hy => out_not y (by rw [ho]; exact hy)
    refine (skPutL (x := ⟨m, n⟩) H3.out H1.out hno HM.out H2.out HS2.out).mono ?_
    rintro en w2 ⟨rfl, xs', L', k1, k2, S3⟩
    obtain ⟨c0, c1, -⟩ := blk2 S3.p3.blk
    have HO := Lib.hid ho
    have HNO := Lib.hid hno
    have HK1 := Lib.hid k1
    have HK2 := Lib.hid k2
    have HS3 := Lib.hid S3.p2
    clear S3 k1 k2 ho hno HS2
    go_wp2_with fail
    refine (dtbPut n HM.out (by rw [HPL.out]; have := HB.out; omega) HS3.out).mono ?_
    rintro en w3 ⟨rfl, S4⟩
    have HS4 := Lib.hid S4
    clear S4 HS3 c0 c1
    go_wp2_with fail
    go_ret
    refine ⟨by rw [lk_prs, HF.out, ← HBN.out, HF.out]; rfl, ?_⟩
    refine Sat.zs_shut (ins_ok (out_ok H1.out m) (fun y hy => out_not y hy) HM.out (by rw [HO.out]; exact HB.out)) HK2.out (by rw [HK1.out]; unfold putS; simp only; rw [HO.out]) (t := t) (o := o) (sd := sd) (sd2 := sd2) ?_
    rw [dtb_perm (prs_put l m n)] at HS4
    exact HS4.out.cong (by ac_rfl)
  | some was =>
    rw [getV_some hf]
    obtain ⟨A, B, e1, e2, e3, e4⟩ := split_S H1.out hf
    have HF := Lib.hid hf
    have HE2 := Lib.hid e2
    clear hf
    go_wp2_with fail
    refine (skDropL (x := ⟨m, was⟩) H3.out e1 e3 e4 H2.out HS2.out).mono ?_
    rintro en w2 ⟨rfl, xs1, L1, j1, j2, S3⟩
    clear e1 e2 e3 e4 c0 c1 HS2
    obtain ⟨c0, c1, -⟩ := blk2 S3.p3.blk
    have HS3 := Lib.hid S3
    have HJ1 : Hid (xs1.map SN.sc = outS l m) := Lib.hid (j1.trans HE2.out.symm)
    have HJ2 := Lib.hid j2
    clear S3 j1 j2
    go_wp2_with fail
    refine (skPutL (x := ⟨m, n⟩) HJ1.out (out_ok H1.out m) (fun y hy => out_not y hy) HM.out HJ2.out HS3.out).mono ?_
    rintro en w3 ⟨rfl, xs', L', k1, k2, S4⟩
    clear c0 c1 HS3
    obtain ⟨c0, c1, -⟩ := blk2 S4.p3.blk
    have HK1 := Lib.hid k1
    have HK2 := Lib.hid k2
    have HS4 := Lib.hid S4.p2
    clear S4 k1 k2
    go_wp2_with fail
    refine (dtbPut n HM.out (by rw [HPL.out]; have := HB.out; omega) HS4.out).mono ?_
    rintro en w4 ⟨rfl, S5⟩
    have HS5 := Lib.hid S5
    clear S5 HS4 c0 c1
    go_wp2_with fail
    go_ret
    refine ⟨by rw [lk_prs, HF.out, ← HBN.out, HF.out]; rfl, ?_⟩
    refine Sat.zs_shut (ins_ok (out_ok H1.out m) (fun y hy => out_not y hy) HM.out (by have := List.length_filter_le (fun x : Sc => !decide (x.f0 = m)) l; exact Nat.lt_of_le_of_lt this HB.out)) HK2.out HK1.out (t := t) (o := o) (sd := sd) (sd2 := sd2) ?_
    rw [dtb_perm (prs_put l m n)] at HS5
    exact HS5.out.cong (by ac_rfl)
/-- 'Len', of a set that nobody made. -/
theorem zsLen0 {w0 w : World} {s : Nat} {R : HP} (S : Sat w0 w (zs0 s * R)) : Calls Try.prog 14 #[pt s] w fun en w' => en = .returned (.int .i64 0) ∧ Sat w0 w' (zs s [] * R) := by
  have HS := Lib.hid S
  clear S
  go_enter Try.func14, Try.ntmps14
  go_wp2_with fail
  refine (zsReady0 HS.out).mono ?_
  rintro en wz ⟨rfl, S0⟩
  obtain ⟨t, o, sd, sd2, hd, xs, L, h1, h2, h3, S1⟩ := S0.zs_open
  obtain ⟨c0, c1, -⟩ := blk2 S1.blk
  have HS0 := Lib.hid S0
  have HS1 := Lib.hid S1.p2
  clear S0 S1 HS
  go_wp2_with fail
  refine (dtbLen HS1.out).mono ?_
  rintro en w' ⟨rfl, rfl⟩
  go_wp2_with fail
  go_ret
  exact ⟨rfl, HS0.out⟩
end Go.Sl
/-! ### ZsC -/
namespace Go.Sl
open Go.RowKit Go.Proofs Go.Sl Go.Proofs.YteakblblpiihpaaW.PrintWords Go.Proofs.Yteakblblpiihpaa.PZs Go.Sl.DI64
set_option linter.unusedVariables false
set_option linter.unusedSimpArgs false
set_option maxRecDepth 100000

/-- The cells of an element of a row. -/
theorem Sat.rS_two {w0 w : World} {A : Option Addr} {m c : Nat} {hs : List Sc} {R : HP} (S : Sat w0 w (rS (.slice A m c) hs * R)) {i : Nat} (h : i < hs.length) :
    ∃ g, A = some ⟨g, 0, none⟩ ∧ w.cell? ⟨g, i * 2, none⟩ = some (.string hs[i].f0) ∧ w.cell? ⟨g, i * 2 + 1, none⟩ = some (.int .i64 hs[i].f1) := by
  have hc0 := flat_cell flatS (xs := hs) (j := i) (i := 0) (List.getElem?_eq_getElem h) (by rfl : (encS hs[i])[0]? = some (.string hs[i].f0))
  have hc1 := flat_cell flatS (xs := hs) (j := i) (i := 1) (List.getElem?_eq_getElem h) (by rfl : (encS hs[i])[1]? = some (.int .i64 hs[i].f1))
  obtain ⟨g, e1, h0⟩ := S.row_cells _ _ hc0
  obtain ⟨g', e2, h1⟩ := S.row_cells _ _ hc1
  subst e1
  injection e2 with e2; injection e2 with e2
  subst e2
  exact ⟨g, rfl, h0, h1⟩
theorem flat_setS : ∀ (hs : List Sc) (i : Nat) (y : Sc), i < hs.length → (hs.set i y).flatMap encS = ((hs.flatMap encS).set (i * 2) (.string y.f0)).set (i * 2 + 1) (.int .i64 y.f1)
  | [], i, y, h => by simp at h
  | x :: hs, 0, y, _ => rfl
  | x :: hs, i + 1, y, h => by
    rw [List.set_cons_succ, List.flatMap_cons, flat_setS hs i y (by simpa using h), List.flatMap_cons]
    rw [show (i + 1) * 2 = i * 2 + 1 + 1 from by omega]
    simp [encS]
theorem Sat.row_setcS {w0 w : World} {e g n cap j : Nat} {xs : List Value} {R : HP} (S : Sat w0 w (row e 2 (.slice (some ⟨g, 0, none⟩) n cap) n xs * R)) (u : Value) :
    Sat w0 (w.setCell ⟨g, j, none⟩ u) (row e 2 (.slice (some ⟨g, 0, none⟩) n cap) n (xs.set j u) * R) := by
  obtain ⟨hl, h⟩ := S.row_open
  rcases h with ⟨h0, _⟩ | ⟨g2, cap2, cur, hv, hn, hm, hs, ht, S1⟩
  · cases h0
  · injection hv with hv h2 h3
    injection hv with hv
    injection hv with hv
    subst hv h3
    refine Sat.row_shut (by simpa using hl) hn hm (by simpa using hs) ?_ (S1.setCell (i := j) u)
    rw [Array.toList_setIfInBounds, ← ht]
    refine List.ext_getElem? fun i => ?_
    by_cases hi : i < n * 2
    · rw [List.getElem?_take_of_lt hi, List.getElem?_set, List.getElem?_set, List.getElem?_take_of_lt hi]
      by_cases e : j = i
      · subst e
        have : j < cur.size := by rw [hs]; exact Nat.lt_of_lt_of_le hi (Nat.mul_le_mul_right 2 hn)
        rw [if_pos rfl, if_pos rfl, if_pos (by simpa using this), if_pos (by simp; omega)]
      · rw [if_neg e, if_neg e]
    · rw [List.getElem?_eq_none (by simp; omega), List.getElem?_eq_none (by simp; omega)]
theorem Sat.rS_put {w0 w : World} {g cap i : Nat} {hs : List Sc} {R : HP} (S : Sat w0 w (rS (.slice (some ⟨g, 0, none⟩) hs.length cap) hs * R)) (h : i < hs.length) (y : Sc) :
    Sat w0 ((w.setCell ⟨g, i * 2, none⟩ (.string y.f0)).setCell ⟨g, i * 2 + 1, none⟩ (.int .i64 y.f1)) (rS (.slice (some ⟨g, 0, none⟩) (hs.set i y).length cap) (hs.set i y) * R) := by
  simp only [rS]
  rw [List.length_set, flat_setS hs i y h]
  exact (S.row_setcS _).row_setcS _
theorem Sat.rS_frz {w0 w : World} {e sz n m c : Nat} {A : Option Addr} {xs : List Value} {R : HP} (S : Sat w0 w (row e sz (.slice A m c) n xs * R)) : ∀ g, A = some ⟨g, 0, none⟩ → ∀ i, w.frozen? ⟨g, i, none⟩ = false := by
  intro g hg i
  subst hg
  obtain ⟨_, h⟩ := S.row_open
  rcases h with ⟨h0, _⟩ | ⟨g2, cap2, cur, hv, _, _, _, _, S1⟩
  · cases h0
  · injection hv with hv _ _
    injection hv with hv
    injection hv with hv
    subst hv
    exact frz_of S1.blk _
/-- What is turned up to i. -/
def Turn (l cur : List Sc) (i : Nat) : Prop := cur.length = l.length ∧ ∀ k (h : k < l.length) (h' : k < cur.length), cur[k] = if k < i ∨ l.length - 1 - i < k then l[l.length - 1 - k] else l[k]
theorem turn_0 (l : List Sc) : Turn l l 0 := ⟨rfl, fun k h h' => by rw [if_neg (by omega)]⟩
theorem turn_all {l cur : List Sc} {i : Nat} (h : Turn l cur i) (hi : l.length ≤ 2 * i + 1) : cur = l.reverse := by
  refine List.ext_getElem (by rw [List.length_reverse]; exact h.1) fun k h1 h2 => ?_
  rw [List.getElem_reverse, h.2 k (by have := h.1; omega) h1]
  by_cases e : k < i ∨ l.length - 1 - i < k
  · rw [if_pos e]
  · rw [if_neg e]
    have := h.1
    congr 1
    omega
theorem turn_next {l cur : List Sc} {i : Nat} (h : Turn l cur i) (hi : 2 * i + 1 < l.length) (h1 : i < cur.length) (h2 : l.length - 1 - i < cur.length) : Turn l ((cur.set i cur[l.length - 1 - i]).set (l.length - 1 - i) cur[i]) (i + 1) := by
  refine ⟨by simpa using h.1, fun k hk hk' => ?_⟩
  have e1 := h.2 i (by omega) h1
  have e2 := h.2 (l.length - 1 - i) (by omega) h2
  rw [if_neg (by omega)] at e1 e2
  rw [List.getElem_set]
  by_cases a : l.length - 1 - i = k
  · subst a
    rw [if_pos rfl, if_pos (by omega), e1]
    congr 1
    omega
  · rw [if_neg a, List.getElem_set]
    by_cases b : i = k
    · subst b
      rw [if_pos rfl, if_pos (by omega), e2]
    · rw [if_neg b, h.2 k hk (by simpa using hk')]
      by_cases c : k < i ∨ l.length - 1 - i < k
      · rw [if_pos c, if_pos (by omega)]
      · rw [if_neg c, if_neg (by omega)]
set_option maxHeartbeats 8000000 in
/-- 'slices.Reverse', of a row of pairs. -/
theorem zsReverse {w0 w : World} {A : Option Addr} {c : Nat} {l : List Sc} {R : HP} (hb : l.length ≤ 1000000) (S : Sat w0 w (rS (.slice A l.length c) l * R)) :
    Calls Try.prog 72 #[.slice A l.length c] w fun en w' => en = .returned (.tuple #[]) ∧ Sat w0 w' (rS (.slice A l.length c) l.reverse * R) := by
  have HS := Lib.hid S
  have hlb : (l.length : Int) ≤ 1000000 := by omega
  have HB := Lib.hid hb
  clear S hb
  go_enter Try.func72, Try.ntmps72
  go_wp2_with fail
  go_loopw [2, 3] (fun v2 v3 wr => ∃ (i : Nat) (cur : List Sc), v2 = .int .i64 i ∧ v3 = .int .i64 ((l.length : Int) - 1 - i) ∧ Hid (2 * i ≤ l.length + 1) ∧ Hid (Turn l cur i) ∧ Hid (Sat w0 wr (rS (.slice A l.length c) cur * R))) (fun v2 _ _ => l.length - (RowKit.intOf v2).toNat)
  case atStart => exact ⟨0, l, rfl, by simp, Lib.hid (by omega), Lib.hid (turn_0 l), HS⟩
  case round =>
    clear HS
    obtain ⟨i, cur, rfl, rfl, HI, HT, HSi⟩ := hrel
    by_cases hlt : 2 * i + 1 < l.length
    · have hd : decide ((i : Int) < (l.length : Int) - 1 - i) = true := by simp; omega
      have hj : (l.length : Int) - 1 - i = ((l.length - 1 - i : Nat) : Int) := by omega
      have hcl := HT.out.1
      have hi1 : i < cur.length := by omega
      have hj1 : l.length - 1 - i < cur.length := by omega
      have hlt1 : (i : Int) < (l.length : Int) := by omega
      have hlt2 : ((l.length - 1 - i : Nat) : Int) < (l.length : Int) := by omega
      have hne : i ≠ l.length - 1 - i := by omega
      obtain ⟨g, e1, x0, x1⟩ := HSi.out.rS_two hi1
      subst e1
      obtain ⟨g', e1, y0, y1⟩ := HSi.out.rS_two hj1
      cases e1
      have fg := HSi.out.rS_frz g rfl
      have S1 : Sat w0 wr (rS (.slice (some ⟨g, 0, none⟩) cur.length c) cur * R) := HSi.out.cong (by simp only [rS, hcl])
      have S2 := S1.rS_put hi1 cur[l.length - 1 - i]
      have S3 := S2.rS_put (by rw [List.length_set]; exact hj1) cur[i]
      have HT2 := Lib.hid (turn_next HT.out hlt hi1 hj1)
      have HS3 := Lib.hid S3.drew
      have HLT := Lib.hid hlt
      rw [hj] at hd ⊢
      have hd2 : decide (i < l.length - 1 - i) = true := by simpa using hd
      clear S1 S2 S3 hlt hcl hj
      go_wp2_with fail
      go_region
      clear x0 x1 y0 y1 fg
      obtain ⟨nx, hnx⟩ : ∃ nx, nx = (cur.set i cur[l.length - 1 - i]).set (l.length - 1 - i) cur[i] := ⟨_, rfl⟩
      rw [← hnx] at HS3 HT2
      refine gen_w HS3.out ?_
      clear HS3 HSi hnx
      intro w3 S4
      have HS4 : Hid (Sat w0 w3 (rS (.slice (some ⟨g, 0, none⟩) l.length c) nx * R)) := Lib.hid (by rw [HT2.out.1] at S4; exact S4)
      clear S4
      go_wp2_with fail
      go_roundw
      case rel => exact ⟨i + 1, nx, by simp, by simp; have := HLT.out; omega, Lib.hid (by have := HLT.out; omega), HT2, HS4⟩
      case measure => simp [RowKit.intOf]; have := HLT.out; omega
    · have hd : decide ((i : Int) < (l.length : Int) - 1 - i) = false := by simp; omega
      have HF := Lib.hid (turn_all HT.out (by omega))
      clear hlt
      go_wp2_with fail
      refine bodyPost_end (results_none rfl _ _ _) rfl ?_
      exact ⟨rfl, by rw [← HF.out]; exact HSi.out⟩
end Go.Sl
/-! ### ZsD -/
namespace Go.Sl
open Go.RowKit Go.Proofs Go.Sl Go.Proofs.YteakblblpiihpaaW.PrintWords Go.Proofs.Yteakblblpiihpaa.PZs Go.Sl.DI64
set_option linter.unusedVariables false
set_option linter.unusedSimpArgs false
set_option maxRecDepth 100000

/-- As it is told, from an end. -/
def wayS (l : List Sc) (back : Bool) : List Sc := if back then l.reverse else l
theorem wayS_length (l : List Sc) (back : Bool) : (wayS l back).length = l.length := by cases back <;> simp [wayS]
theorem way_cut (l : List Sc) {f t : Nat} (hft : f ≤ t) (ht : t < l.length) : ((l.drop (l.length - 1 - t)).take ((l.length - 1 - f) + 1 - (l.length - 1 - t))).reverse = (l.reverse.drop f).take (t + 1 - f) := by
  rw [List.reverse_take, List.length_drop, List.reverse_drop, List.drop_take]
  rw [show l.length - (l.length - 1 - t) - (l.length - 1 - f + 1 - (l.length - 1 - t)) = f from by omega, show l.length - (l.length - 1 - t) - f = t + 1 - f from by omega]
set_option maxHeartbeats 4000000 in
/-- 'cut', of ranks that are there, from the end. -/
theorem zsCutB {w0 w : World} {s f t : Nat} {l : List Sc} {R : HP} (hft : f ≤ t) (ht : t < l.length) (S : Sat w0 w (zs s l * R)) :
    Calls Try.prog 42 #[pt s, .int .i64 f, .int .i64 t, .bool true] w fun en w' => ∃ v, en = .returned v ∧ Sat w0 w' (rS v ((l.reverse.drop f).take (t + 1 - f)) * (zs s l * R)) := by
  have HS := Lib.hid S
  have h0d : ((l.length : Int) == 0) = false := by rw [beq_eq_false_iff_ne]; omega
  have h1d : decide ((t : Int) < (f : Int)) = false := by simp; omega
  have h1d2 : decide (t < f) = false := by simp; omega
  have HE1 := Lib.hid (show (l.length : Int) - 1 - (t : Int) = ((l.length - 1 - t : Nat) : Int) by omega)
  have HE2 := Lib.hid (show (l.length : Int) - 1 - (f : Int) = ((l.length - 1 - f : Nat) : Int) by omega)
  have HFT := Lib.hid hft
  have HT := Lib.hid ht
  have hbig : (l.length : Int) ≤ 1000000 := by
    obtain ⟨_, _, _, _, _, _, _, h1, _, _, _⟩ := S.zs_open
    have := h1.big
    omega
  have HLE : Hid (((l.drop (l.length - 1 - t)).take (l.length - 1 - f + 1 - (l.length - 1 - t))).length ≤ 1000000) := Lib.hid (Nat.le_trans (List.length_take_le' _ _) (Nat.le_trans (List.length_drop ▸ Nat.sub_le _ _) (by omega)))
  have hbt : (t : Int) ≤ 1000000 := by omega
  have hbf : (f : Int) ≤ 1000000 := by omega
  clear S hft ht
  go_enter Try.func42, Try.ntmps42
  go_wp2_with fail
  refine (zsLen HS.out).mono ?_
  rintro en w' ⟨rfl, rfl⟩
  go_wp2_with fail
  refine (zsLen HS.out).mono ?_
  rintro en w' ⟨rfl, rfl⟩
  go_wp2_with fail
  refine (zsLen HS.out).mono ?_
  rintro en w' ⟨rfl, rfl⟩
  obtain ⟨tb, o, sd, sd2, hd, xs, L, h1, h2, h3, S1⟩ := HS.out.zs_open
  obtain ⟨c0, c1, -⟩ := blk2 S1.blk
  have HS1 := Lib.hid S1.p3
  have H1 := Lib.hid h1
  have H2 := Lib.hid h2
  have H3 := Lib.hid h3
  clear S1 HS h1 h2 h3
  go_wp2_with fail
  rw [HE1.out, HE2.out]
  refine (skCut (f := l.length - 1 - t) (t := l.length - 1 - f) (by have := HFT.out; omega) (by have := congrArg List.length H3.out; rw [List.length_map] at this; rw [this]; have := HT.out; omega) rfl H2.out HS1.out).mono ?_
  rintro en w2 ⟨v, rfl, S2⟩
  have HS2 : Hid (Sat w0 w2 (rS v ((l.drop (l.length - 1 - t)).take (l.length - 1 - f + 1 - (l.length - 1 - t))) * (zs s l * R))) := Lib.hid (by
    rw [List.map_take, List.map_drop, H3.out] at S2
    have := Sat.zs_shut (t := tb) (o := o) (sd := sd) (sd2 := sd2) (R := rS v ((l.drop (l.length - 1 - t)).take (l.length - 1 - f + 1 - (l.length - 1 - t))) * R) H1.out H2.out H3.out (S2.cong (by ac_rfl))
    exact this.p2)
  obtain ⟨z, hz⟩ : ∃ z, z = (l.drop (l.length - 1 - t)).take (l.length - 1 - f + 1 - (l.length - 1 - t)) := ⟨_, rfl⟩
  rw [← hz] at HS2 HLE
  have HZ := Lib.hid hz
  clear S2 HS1 c0 c1 hz
  obtain ⟨A, c, hv, -, -⟩ := Sat.row_C flatS rfl HS2.out
  subst hv
  go_wp2_with fail
  refine (zsReverse HLE.out HS2.out).mono ?_
  rintro en w3 ⟨rfl, S3⟩
  have HS3 := Lib.hid S3
  clear S3 HS2
  go_wp2_with fail
  go_ret
  refine ⟨.slice A z.length c, rfl, ?_⟩
  have e := way_cut l HFT.out HT.out
  rw [← e, ← HZ.out]
  exact HS3.out.cong (by simp only [rS, List.length_reverse])
/-- 'cut', of ranks that are there. -/
theorem zsCutW {w0 w : World} {s f t : Nat} {l : List Sc} {back : Bool} {R : HP} (hft : f ≤ t) (ht : t < l.length) (S : Sat w0 w (zs s l * R)) :
    Calls Try.prog 42 #[pt s, .int .i64 f, .int .i64 t, .bool back] w fun en w' => ∃ v, en = .returned v ∧ Sat w0 w' (rS v (((wayS l back).drop f).take (t + 1 - f)) * (zs s l * R)) := by
  cases back with
  | false => exact zsCut hft ht S
  | true => exact zsCutB hft ht S
/-- 'cut', of no ranks. -/
theorem zsCut_none {w0 w : World} {s : Nat} {a b : Int} {l : List Sc} {back : Bool} {R : HP} (h : b < a) (S : Sat w0 w (zs s l * R)) :
    Calls Try.prog 42 #[pt s, .int .i64 a, .int .i64 b, .bool back] w fun en w' => en = .returned (.slice none 0 0) ∧ w = w' := by
  by_cases h0 : l = []
  · subst h0
    exact zsCut_nil S
  · have HS := Lib.hid S
    have h0d : ((l.length : Int) == 0) = false := by have := List.length_pos_iff.2 h0; rw [beq_eq_false_iff_ne]; omega
    have h1d : decide (b < a) = true := by simpa using h
    clear S h0
    go_enter Try.func42, Try.ntmps42
    go_wp2_with fail
    refine (zsLen HS.out).mono ?_
    rintro en w' ⟨rfl, rfl⟩
    go_wp2_with fail
    go_ret
    exact ⟨rfl, rfl⟩
/-- Ranks, from an end. -/
def cutS (l : List Sc) (a b : Int) (back : Bool) : List Sc := if b < a then [] else ((wayS l back).drop a.toNat).take (b.toNat + 1 - a.toNat)
/-- 'cut', of ranks that are there, or of none. -/
theorem zsCutG {w0 w : World} {s : Nat} {a b : Int} {l : List Sc} {back : Bool} {R : HP} (h : b < a ∨ 0 ≤ a ∧ b < l.length) (S : Sat w0 w (zs s l * R)) :
    Calls Try.prog 42 #[pt s, .int .i64 a, .int .i64 b, .bool back] w fun en w' => ∃ v, en = .returned v ∧ Sat w0 w' (rS v (cutS l a b back) * (zs s l * R)) := by
  by_cases hba : b < a
  · refine (zsCut_none hba S).mono ?_
    rintro en w' ⟨rfl, rfl⟩
    exact ⟨_, rfl, by unfold cutS; rw [if_pos hba]; exact S.row_nil _ _⟩
  · obtain ⟨a, rfl⟩ : ∃ n : Nat, a = n := ⟨a.toNat, by omega⟩
    obtain ⟨b, rfl⟩ : ∃ n : Nat, b = n := ⟨b.toNat, by omega⟩
    unfold cutS
    rw [if_neg hba]
    exact zsCutW (by omega) (by omega) S
end Go.Sl
/-! ### ZsE -/
namespace Go.Sl
open Go.RowKit Go.Proofs Go.Sl Go.Proofs.YteakblblpiihpaaW.PrintWords Go.Proofs.Yteakblblpiihpaa.PZs Go.Sl.DI64
set_option linter.unusedVariables false
set_option linter.unusedSimpArgs false
set_option maxRecDepth 100000

/-- A row of texts, owned. -/
abbrev rT (v : Value) (l : List ByteArray) : HP := row 9 1 v l.length (l.map Value.string)
/-- Members go, one by one. -/
def outsS (l : List Sc) (ms : List ByteArray) : List Sc := ms.foldl outS l
theorem outs_ok {l : List Sc} (h : ZOk l) : ∀ ms, ZOk (outsS l ms) := by
  intro ms
  induction ms generalizing l with
  | nil => exact h
  | cons m ms ih => exact ih (out_ok h m)
theorem outs_le (l : List Sc) : ∀ ms, (outsS l ms).length ≤ l.length := by
  intro ms
  induction ms generalizing l with
  | nil => exact Nat.le_refl _
  | cons m ms ih => exact Nat.le_trans (ih _) (List.length_filter_le _ _)
theorem outs_take (l : List Sc) (ms : List ByteArray) {i : Nat} (h : i < ms.length) : outsS l (ms.take (i + 1)) = outS (outsS l (ms.take i)) ms[i] := by
  unfold outsS
  rw [List.take_add_one, List.getElem?_eq_getElem h, Option.toList_some, List.foldl_append]
  rfl
theorem Sat.rT_at {w0 w : World} {A : Option Addr} {m c : Nat} {hs : List ByteArray} {R : HP} (S : Sat w0 w (rT (.slice A m c) hs * R)) {i : Nat} (h : i < hs.length) : ∃ g, A = some ⟨g, 0, none⟩ ∧ w.cell? ⟨g, i, none⟩ = some (.string hs[i]) :=
  S.row_cells i _ (by rw [List.getElem?_map, List.getElem?_eq_getElem h]; rfl)
theorem scoreV_none {l : List Sc} {m : ByteArray} (h : findS l m = none) : scoreV l m = .tuple #[.int .i64 0, .bool false] := by unfold scoreV; rw [h]; rfl
theorem scoreV_some {l : List Sc} {m : ByteArray} {v : Int} (h : findS l m = some v) : scoreV l m = .tuple #[.int .i64 v, .bool true] := by unfold scoreV; rw [h]; rfl
set_option maxHeartbeats 8000000 in
/-- 'Drop'. -/
theorem zsDrop {w0 w : World} {s c : Nat} {A : Option Addr} {l : List Sc} {ms : List ByteArray} {R : HP} (hm : ∀ m ∈ ms, m.size ≤ maxLen) (hn : ms.length ≤ 1000000) (S : Sat w0 w (zs s l * (rT (.slice A ms.length c) ms * R))) :
    Calls Try.prog 28 #[pt s, .slice A ms.length c] w fun en w' => en = .returned (.int .i64 ((l.length : Int) - (outsS l ms).length)) ∧ Sat w0 w' (zs s (outsS l ms) * (rT (.slice A ms.length c) ms * R)) := by
  have HS := Lib.hid S
  have HM := Lib.hid hm
  have hnn : (ms.length : Int) ≤ 1000000 := by omega
  have HZ : Hid (ZOk l) := Lib.hid (by obtain ⟨_, _, _, _, _, _, _, h1, _⟩ := S.zs_open; exact h1)
  have HLB : Hid ((l.length : Int) ≤ 1000000) := Lib.hid (by have := HZ.out.big; omega)
  clear S hm hn
  go_enter Try.func28, Try.ntmps28
  go_wp2_with fail
  go_loopw [5, 12] (fun v5 v12 wr => ∃ (i : Nat) (n : Int), v12 = .int .i64 i ∧ v5 = .int .i64 n ∧ i ≤ ms.length ∧ Hid (n = (l.length : Int) - (outsS l (ms.take i)).length) ∧ Hid (Sat w0 wr (zs s (outsS l (ms.take i)) * (rT (.slice A ms.length c) ms * R)))) (fun _ v12 _ => ms.length - (RowKit.intOf v12).toNat)
  case atStart => exact ⟨0, 0, rfl, rfl, by omega, Lib.hid (by simp [outsS]), HS⟩
  case round =>
    clear HS
    obtain ⟨i, n, rfl, rfl, hi, HN, HSi⟩ := hrel
    by_cases hlt : i < ms.length
    · obtain ⟨cur, hcur⟩ : ∃ cur, cur = outsS l (ms.take i) := ⟨_, rfl⟩
      rw [← hcur] at HN HSi
      have HNX : Hid (outsS l (ms.take (i + 1)) = outS cur ms[i]) := Lib.hid (by rw [hcur]; exact outs_take l ms hlt)
      have HCL : Hid (cur.length ≤ l.length) := Lib.hid (by rw [hcur]; exact outs_le _ _)
      have HCZ : Hid (ZOk cur) := Lib.hid (by rw [hcur]; exact outs_ok HZ.out _)
      obtain ⟨g, e1, x0⟩ := HSi.out.p2.rT_at hlt
      subst e1
      have hx : ms[i].size ≤ maxLen := HM.out _ (List.getElem_mem hlt)
      obtain ⟨m, hmi⟩ : ∃ m, m = ms[i] := ⟨_, rfl⟩
      rw [← hmi] at x0 hx HNX
      have HX := Lib.hid hx
      have hnb : n ≤ 1000000 := by rw [HN.out]; have := HLB.out; omega
      have hn0 : 0 ≤ n := by rw [HN.out]; have := HCL.out; omega
      clear hcur hx hmi
      go_wp2_with fail
      refine (zsScore HX.out HSi.out).mono ?_
      rintro en w1 ⟨rfl, S1⟩
      clear x0
      cases hf : findS cur m with
      | none =>
        rw [scoreV_none hf]
        have HO := Lib.hid (out_none hf)
        have HS1 := Lib.hid S1
        clear hf S1 HSi
        go_wp2_with fail
        go_roundw
        case rel => exact ⟨i + 1, n, by simp, rfl, by omega, Lib.hid (by rw [HNX.out, HO.out]; exact HN.out), Lib.hid (by rw [HNX.out, HO.out]; exact HS1.out)⟩
        case measure => simp [RowKit.intOf]; omega
      | some v =>
        rw [scoreV_some hf]
        obtain ⟨t, o, sd, sd2, hd, xs, L, h1, h2, h3, S2⟩ := S1.zs_open
        obtain ⟨c0, c1, -⟩ := blk2 S2.blk
        obtain ⟨XA, XB, e1, e2, e3, e4⟩ := split_S h1 hf
        have HF := Lib.hid hf
        have HE2 := Lib.hid e2
        have hlen : cur.length = (outS cur m).length + 1 := by rw [e2]; rw [e1]; simp; omega
        have HLEN := Lib.hid hlen
        have HS2 := Lib.hid S2.p3
        have H1 := Lib.hid h1
        clear hf S1 S2 HSi hlen h1
        go_wp2_with fail
        refine (skDropL (x := ⟨m, v⟩) h3 e1 e3 e4 h2 HS2.out).mono ?_
        rintro en w2 ⟨rfl, xs1, L1, j1, j2, S3⟩
        clear e1 e2 e3 e4 c0 c1 HS2 h2 h3
        obtain ⟨c0, c1, -⟩ := blk2 S3.p2.blk
        have HS3 := Lib.hid S3.p3
        have HJ1 : Hid (xs1.map SN.sc = outS cur m) := Lib.hid (j1.trans HE2.out.symm)
        have HJ2 := Lib.hid j2
        clear S3 j1 j2
        go_wp2_with fail
        refine (dtbDrop HX.out HS3.out).mono ?_
        rintro en w3 ⟨rfl, S4⟩
        rw [prs_era] at S4
        have HS4 : Hid (Sat w0 w3 (zs s (outS cur m) * (rT (.slice (some ⟨g, 0, none⟩) ms.length c) ms * R))) := Lib.hid (Sat.zs_shut (t := t) (o := o) (sd := sd) (sd2 := sd2) (out_ok H1.out m) HJ2.out HJ1.out (S4.cong (by ac_rfl)))
        clear S4 HS3 c0 c1
        go_wp2_with fail
        go_roundw
        case rel => exact ⟨i + 1, n + 1, by simp, by simp, by omega, Lib.hid (by rw [HNX.out, HN.out, HLEN.out]; omega), Lib.hid (by rw [HNX.out]; exact HS4.out)⟩
        case measure => simp [RowKit.intOf]; omega
    · have hi2 : i = ms.length := by omega
      have HIE := Lib.hid (show outsS l (ms.take i) = outsS l ms by rw [hi2, List.take_of_length_le (Nat.le_refl _)])
      clear hi
      go_wp2_with fail
      go_ret
      rw [HIE.out] at HN HSi
      exact ⟨by rw [HN.out]; rfl, HSi.out⟩
end Go.Sl
/-! ### ZsF -/
namespace Go.Sl
open Go.RowKit Go.Proofs Go.Sl Go.Proofs.YteakblblpiihpaaW.PrintWords Go.Proofs.Yteakblblpiihpaa.PZs Go.Sl.DI64
set_option linter.unusedVariables false
set_option linter.unusedSimpArgs false
set_option maxRecDepth 100000

/-- How many are below. -/
def blw (l : List Sc) (s : Int) (op : Bool) : Nat := (l.takeWhile fun x => beB x.f1 s op).length
def fromI (l : List Sc) (li ls : Int) (lo : Bool) : Nat := if 0 < li then l.length else if li = 0 then blw l ls lo else 0
def toI (l : List Sc) (hi hs : Int) (ho : Bool) : Nat := if hi < 0 then 0 else if hi = 0 then blw l hs (!ho) else l.length
theorem blw_le (l : List Sc) (s : Int) (op : Bool) : blw l s op ≤ l.length := (List.takeWhile_sublist _).length_le
theorem fromI_le (l : List Sc) (li ls : Int) (lo : Bool) : fromI l li ls lo ≤ l.length := by
  unfold fromI
  have := blw_le l ls lo
  split
  · exact Nat.le_refl _
  · split <;> omega
theorem toI_le (l : List Sc) (hi hs : Int) (ho : Bool) : toI l hi hs ho ≤ l.length := by
  unfold toI
  have := blw_le l hs (!ho)
  split
  · omega
  · split <;> omega
theorem blw_split {l : List Sc} (h : ZOk l) (s : Int) (op : Bool) : (∀ y ∈ l.takeWhile (fun x => beB x.f1 s op), beB y.f1 s op = true) ∧ ∀ y ∈ l.dropWhile (fun x => beB x.f1 s op), beB y.f1 s op = false := by
  have ho := h.ord
  clear h
  induction l with
  | nil => simp
  | cons a l ih =>
    rw [List.pairwise_cons] at ho
    obtain ⟨h1, h2⟩ := ih ho.2
    by_cases ha : beB a.f1 s op = true
    · rw [List.takeWhile_cons_of_pos (by simpa using ha), List.dropWhile_cons_of_pos (by simpa using ha)]
      refine ⟨fun y hy => ?_, h2⟩
      rcases List.mem_cons.1 hy with rfl | hy
      · exact ha
      · exact h1 y hy
    · rw [List.takeWhile_cons_of_neg (by simpa using ha), List.dropWhile_cons_of_neg (by simpa using ha)]
      refine ⟨by simp, fun y hy => ?_⟩
      rcases List.mem_cons.1 hy with rfl | hy
      · simpa using ha
      · have hlt := ho.1 y hy
        rw [ltS_iff] at hlt
        simp only [beB, Bool.or_eq_true, decide_eq_true_eq, Bool.and_eq_true, beq_iff_eq, not_or, not_and] at ha
        simp only [beB, Bool.or_eq_false_iff, decide_eq_false_iff_not, Bool.and_eq_false_imp, beq_eq_false_iff_ne, ne_eq]
        rcases hlt with h | ⟨h, _⟩
        · exact ⟨by omega, fun e => by have := ha.2 e; omega⟩
        · exact ⟨by omega, fun e => by have := ha.2 e; omega⟩
/-- The list's 'Below', of a sorted set. -/
theorem skBelowL {w0 w : World} {o : Nat} {seed : Int} {hd : SN} {xs : List SN} {L : Lk} {l : List Sc} {bnd : Int} {op : Bool} {R : HP} (hl : xs.map SN.sc = l) (hz : ZOk l) (hok : SkOk hd xs L) (S : Sat w0 w (skl o seed hd xs L xs.length * R)) :
    Calls Try.prog 75 #[pt o, .int .i64 bnd, .bool op] w fun en w' => en = .returned (.int .i64 (blw l bnd op)) ∧ Sat w0 w' (skl o seed hd xs L xs.length * R) := by
  have hsp := List.takeWhile_append_dropWhile (p := fun x : Sc => beB x.f1 bnd op) (l := l)
  obtain ⟨h1, h2⟩ := blw_split hz bnd op
  unfold blw
  rw [← hsp] at hl
  obtain ⟨XA, XB, rfl, hXA, hXB⟩ := List.map_eq_append_iff.1 hl
  rw [← hXA, List.length_map]
  exact skBelow rfl hok (fun y hy => h1 y.sc (by rw [← hXA]; exact List.mem_map.2 ⟨y, hy, rfl⟩)) (fun y hy => h2 y.sc (by rw [← hXB]; exact List.mem_map.2 ⟨y, hy, rfl⟩)) S
abbrev bndV (i s : Int) (o : Bool) : Value := .agg #[.int .i64 i, .int .i64 s, .bool o]
abbrev bndO (i s : Int) (o : Bool) : Obj := .cells #[.int .i64 i, .int .i64 s, .bool o] 48 (0, 0)
theorem cellsB5 {w0 w : World} {s b1 t o : Nat} {li ls : Int} {lo : Bool} {ty : TypeId} {K D Q R : HP} (S : Sat w0 w (K * (pts s (.cells #[pt t, pt o] ty (0, 0)) * (D * (Q * (pts b1 (bndO li ls lo) * R)))))) :
    w.cell? ⟨s, 1, none⟩ = some (pt o) ∧ w.cell? ⟨b1, 1, none⟩ = some (.int .i64 ls) ∧ w.cell? ⟨b1, 2, none⟩ = some (.bool lo) := ⟨(blk2 S.p2.blk).2.1, (blk3 S.p5.blk).2.1, (blk3 S.p5.blk).2.2.1⟩
set_option maxHeartbeats 8000000 in
/-- 'ranks', of an empty set. -/
theorem zsRanks0 {w0 w : World} {s : Nat} {li ls hi hs : Int} {lo ho : Bool} {R : HP} (S : Sat w0 w (zs s [] * R)) :
    Calls Try.prog 48 #[pt s, bndV li ls lo, bndV hi hs ho] w fun en w' => en = .returned (.tuple #[.int .i64 0, .int .i64 0]) ∧ Sat w0 w' (zs s [] * R) := by
  have HS := Lib.hid ((S.alloc (bndO li ls lo)).alloc (bndO hi hs ho))
  clear S
  go_enter Try.func48, Try.ntmps48
  go_wp2_with fail
  refine (zsLen HS.out.p3).mono ?_
  rintro en w' ⟨rfl, rfl⟩
  go_wp2_with fail
  go_ret2
  exact ⟨rfl, HS.out.drop1.drop1⟩
set_option maxHeartbeats 16000000 in
/-- 'ranks'. -/
theorem zsRanks {w0 w : World} {s : Nat} {li ls hi hs : Int} {lo ho : Bool} {l : List Sc} {R : HP} (hne : l ≠ []) (S : Sat w0 w (zs s l * R)) :
    Calls Try.prog 48 #[pt s, bndV li ls lo, bndV hi hs ho] w fun en w' => en = .returned (.tuple #[.int .i64 (fromI l li ls lo), .int .i64 (max (fromI l li ls lo) (toI l hi hs ho))]) ∧ Sat w0 w' (zs s l * R) := by
  obtain ⟨fr, hfr⟩ : ∃ fr, fr = fromI l li ls lo := ⟨_, rfl⟩
  obtain ⟨tt, htt⟩ : ∃ tt, tt = toI l hi hs ho := ⟨_, rfl⟩
  rw [← hfr, ← htt]
  have HFR := Lib.hid hfr
  have HTT := Lib.hid htt
  have h0d : ((l.length : Int) == 0) = false := by have := List.length_pos_iff.2 hne; rw [beq_eq_false_iff_ne]; omega
  obtain ⟨b1, hb1⟩ : ∃ b1, b1 = w.heap.size := ⟨_, rfl⟩
  have S0 := (S.alloc (bndO li ls lo)).alloc (bndO hi hs ho)
  rw [World.size_alloc, ← hb1] at S0
  have HS := Lib.hid S0
  have HB1 := Lib.hid hb1
  clear S S0 hne hfr htt hb1
  go_enter Try.func48, Try.ntmps48
  go_upto_region 1 with (fail)
  rw [← HB1.out]
  refine gen_w HS.out ?_
  clear HS HB1
  intro w1 S1
  have HS := Lib.hid S1
  obtain ⟨p0, p1, p2, -⟩ := blk3 S1.p2.blk
  obtain ⟨q0, q1, q2, -⟩ := blk3 S1.blk
  clear S1
  go_wp2_with fail
  refine (zsLen HS.out.p3).mono ?_
  rintro en w' ⟨rfl, rfl⟩
  go_upto_block 0 with (fail)
  go_cut [9] (fun s9 wx => s9 = .int .i64 fr ∧ Hid (Sat w0 wx (pts (b1 + 1) (bndO hi hs ho) * (pts b1 (bndO li ls lo) * (zs s l * R)))))
  case first =>
    clear q0 q1 q2
    by_cases hl1 : 0 < li
    · have HF : Hid ((l.length : Int) = fr) := Lib.hid (by rw [HFR.out]; unfold fromI; rw [if_pos hl1])
      go_wp2_with fail
      go_meet
      exact ⟨by rw [HF.out], HS⟩
    · by_cases hl2 : li = 0
      · have HF : Hid (blw l ls lo = fr) := Lib.hid (by rw [HFR.out]; unfold fromI; rw [if_neg hl1, if_pos hl2])
        have hl3 : (li == 0) = true := by simp [hl2]
        have hl1d : decide (0 < li) = false := by simp [hl1]
        obtain ⟨t, o, sd, sd2, hd, xs, L, h1, h2, h3, S2⟩ := HS.out.p3.zs_open
        obtain ⟨c0, c1, -⟩ := blk2 S2.blk
        have HS2 := Lib.hid S2.p3
        have H1 := Lib.hid h1
        have H2 := Lib.hid h2
        have H3 := Lib.hid h3
        clear S2 h1 h2 h3 hl2 hl1
        go_wp2_with fail
        go_region_held3 (fun w' => w'.cell? ⟨s, 1, none⟩ = some (pt o) ∧ w'.cell? ⟨b1, 1, none⟩ = some (.int .i64 ls) ∧ w'.cell? ⟨b1, 2, none⟩ = some (.bool lo))
          (first | exact cellsB5 HS2.out.drew | exact cellsB5 HSb.out)
          ((go_at_call 75; refine (skBelowL H3.out H1.out H2.out HS2.out.drew).mono ?_; rintro en w2 ⟨rfl, Sb⟩; have HSb := Lib.hid Sb; clear Sb))
        have HS3 : Hid (Sat w0 w2 (pts (b1 + 1) (bndO hi hs ho) * (pts b1 (bndO li ls lo) * (zs s l * R)))) := Lib.hid ((Sat.zs_shut (s := s) (R := pts (b1 + 1) (bndO hi hs ho) * (pts b1 (bndO li ls lo) * R)) (t := t) (o := o) (sd := sd) (sd2 := sd2) H1.out H2.out H3.out (HSb.out.cong (by ac_rfl))).cong (by ac_rfl))
        clear HS2 HSb c0 c1
        go_wp2_with fail
        go_meet
        exact ⟨by rw [HF.out], HS3⟩
      · have HF : Hid ((0 : Nat) = fr) := Lib.hid (by rw [HFR.out]; unfold fromI; rw [if_neg hl1, if_neg hl2])
        have hl3 : (li == 0) = false := by simp [hl2]
        go_wp2_with fail
        go_meet
        exact ⟨by rw [← HF.out]; rfl, HS⟩
  case rest =>
    obtain ⟨rfl, HS2⟩ := hcut
    clear HS p0 p1 p2 q0 q1 q2
    obtain ⟨q0, q1, q2, -⟩ := blk3 HS2.out.blk
    go_upto_block 1 with (fail)
    go_cut [10] (fun s10 wx => s10 = .int .i64 tt ∧ Hid (Sat w0 wx (pts (b1 + 1) (bndO hi hs ho) * (pts b1 (bndO li ls lo) * (zs s l * R)))))
    case first =>
      by_cases hl1 : hi < 0
      · have HF : Hid ((0 : Nat) = tt) := Lib.hid (by rw [HTT.out]; unfold toI; rw [if_pos hl1])
        go_wp2_with fail
        go_meet
        exact ⟨by rw [← HF.out]; rfl, HS2⟩
      · by_cases hl2 : hi = 0
        · have HF : Hid (blw l hs (!ho) = tt) := Lib.hid (by rw [HTT.out]; unfold toI; rw [if_neg hl1, if_pos hl2])
          have hl3 : (hi == 0) = true := by simp [hl2]
          have hl1d : decide (hi < 0) = false := by simp [hl1]
          obtain ⟨t, o, sd, sd2, hd, xs, L, h1, h2, h3, S2⟩ := HS2.out.p3.zs_open
          obtain ⟨c0, c1, -⟩ := blk2 S2.blk
          have HS3 : Hid (Sat w0 wc (skl o sd2 hd xs L xs.length * (pts s (.cells #[pt t, pt o] 28 (0, 0)) * (dtb t sd (prs l) * (pts b1 (bndO li ls lo) * (pts (b1 + 1) (bndO hi hs ho) * R)))))) := Lib.hid (S2.cong (by ac_rfl))
          have H1 := Lib.hid h1
          have H2 := Lib.hid h2
          have H3 := Lib.hid h3
          clear S2 h1 h2 h3 hl2 hl1
          go_wp2_with fail
          go_region_held3 (fun w' => w'.cell? ⟨s, 1, none⟩ = some (pt o) ∧ w'.cell? ⟨b1 + 1, 1, none⟩ = some (.int .i64 hs) ∧ w'.cell? ⟨b1 + 1, 2, none⟩ = some (.bool ho))
            (first | exact cellsB5 HS3.out.drew | exact cellsB5 HSb.out)
            ((go_at_call 75; refine (skBelowL H3.out H1.out H2.out HS3.out.drew).mono ?_; rintro en w3 ⟨rfl, Sb⟩; have HSb := Lib.hid Sb; clear Sb))
          have HS4 : Hid (Sat w0 w3 (pts (b1 + 1) (bndO hi hs ho) * (pts b1 (bndO li ls lo) * (zs s l * R)))) := Lib.hid ((Sat.zs_shut (s := s) (R := pts (b1 + 1) (bndO hi hs ho) * (pts b1 (bndO li ls lo) * R)) (t := t) (o := o) (sd := sd) (sd2 := sd2) H1.out H2.out H3.out (HSb.out.cong (by ac_rfl))).cong (by ac_rfl))
          clear HS2 HS3 HSb c0 c1
          go_wp2_with fail
          go_meet
          exact ⟨by rw [HF.out], HS4⟩
        · have HF : Hid (l.length = tt) := Lib.hid (by rw [HTT.out]; unfold toI; rw [if_neg hl1, if_neg hl2])
          have hl3 : (hi == 0) = false := by simp [hl2]
          go_wp2_with fail
          go_meet
          exact ⟨by rw [← HF.out], HS2⟩
    case rest =>
      obtain ⟨rfl, HS3⟩ := hcut
      clear HS2 q0 q1 q2
      have HMX := Lib.hid (show max (fr : Int) (tt : Int) = if (fr : Int) < (tt : Int) then (tt : Int) else (fr : Int) by split <;> omega)
      go_wp2_with fail
      go_ret2
      exact ⟨by rw [HMX.out]; rfl, HS3.out.drop1.drop1⟩
end Go.Sl
/-! ### ZsG -/
namespace Go.Sl
open Go.RowKit Go.Proofs Go.Sl Go.Proofs.YteakblblpiihpaaW.PrintWords Go.Proofs.Yteakblblpiihpaa.PZs Go.Sl.DI64
set_option linter.unusedVariables false
set_option linter.unusedSimpArgs false
set_option maxRecDepth 100000

abbrev upI (l : List Sc) (li ls : Int) (lo : Bool) (hi hs : Int) (ho : Bool) : Nat := max (fromI l li ls lo) (toI l hi hs ho)
theorem zsRanksG {w0 w : World} {s : Nat} {li ls hi hs : Int} {lo ho : Bool} {l : List Sc} {R : HP} (S : Sat w0 w (zs s l * R)) :
    Calls Try.prog 48 #[pt s, bndV li ls lo, bndV hi hs ho] w fun en w' => en = .returned (.tuple #[.int .i64 (fromI l li ls lo), .int .i64 (upI l li ls lo hi hs ho : Nat)]) ∧ Sat w0 w' (zs s l * R) := by
  by_cases h : l = []
  · subst h
    refine (zsRanks0 S).mono ?_
    rintro en w' ⟨rfl, S'⟩
    refine ⟨?_, S'⟩
    have h1 : fromI [] li ls lo = 0 := Nat.le_zero.1 (fromI_le [] li ls lo)
    have h2 : toI [] hi hs ho = 0 := Nat.le_zero.1 (toI_le [] hi hs ho)
    unfold upI
    rw [h1, h2]
    rfl
  · refine (zsRanks h S).mono ?_
    rintro en w' ⟨rfl, S'⟩
    exact ⟨by unfold upI; rw [show ((max (fromI l li ls lo) (toI l hi hs ho) : Nat) : Int) = max (fromI l li ls lo : Int) (toI l hi hs ho : Int) by omega], S'⟩
theorem upI_le (l : List Sc) (li ls : Int) (lo : Bool) (hi hs : Int) (ho : Bool) : upI l li ls lo hi hs ho ≤ l.length := Nat.max_le.2 ⟨fromI_le l li ls lo, toI_le l hi hs ho⟩
theorem Sat.zs_big {w0 w : World} {s : Nat} {l : List Sc} {R : HP} (S : Sat w0 w (zs s l * R)) : l.length ≤ 1000000 := by
  obtain ⟨_, _, _, _, _, _, _, h1, _⟩ := S.zs_open
  exact h1.big
theorem Sat.zs_ok {w0 w : World} {s : Nat} {l : List Sc} {R : HP} (S : Sat w0 w (zs s l * R)) : ZOk l := by
  obtain ⟨_, _, _, _, _, _, _, h1, _⟩ := S.zs_open
  exact h1
/-- 'Count'. -/
theorem zsCount {w0 w : World} {s : Nat} {li ls hi hs : Int} {lo ho : Bool} {l : List Sc} {R : HP} (S : Sat w0 w (zs s l * R)) :
    Calls Try.prog 22 #[pt s, bndV li ls lo, bndV hi hs ho] w fun en w' => en = .returned (.int .i64 ((upI l li ls lo hi hs ho : Nat) - (fromI l li ls lo : Nat) : Int)) ∧ Sat w0 w' (zs s l * R) := by
  obtain ⟨fr, hfr⟩ : ∃ fr, fr = fromI l li ls lo := ⟨_, rfl⟩
  obtain ⟨tt, htt⟩ : ∃ tt, tt = upI l li ls lo hi hs ho := ⟨_, rfl⟩
  have hb := S.zs_big
  have h1 : (fr : Int) ≤ 1000000 := by have := fromI_le l li ls lo; omega
  have h2 : (tt : Int) ≤ 1000000 := by have := upI_le l li ls lo hi hs ho; omega
  rw [← hfr, ← htt]
  have HFR := Lib.hid hfr
  have HTT := Lib.hid htt
  obtain ⟨b1, hb1⟩ : ∃ b1, b1 = w.heap.size := ⟨_, rfl⟩
  have S0 := (S.alloc (bndO li ls lo)).alloc (bndO hi hs ho)
  rw [World.size_alloc, ← hb1] at S0
  have HS := Lib.hid S0
  have HB1 := Lib.hid hb1
  clear S S0 hfr htt hb1 hb
  go_enter Try.func22, Try.ntmps22
  go_upto_region 1 with (fail)
  rw [← HB1.out]
  refine gen_w HS.out ?_
  clear HS HB1
  intro w1 S1
  have HS := Lib.hid S1
  obtain ⟨p0, p1, p2, -⟩ := blk3 S1.p2.blk
  obtain ⟨q0, q1, q2, -⟩ := blk3 S1.blk
  clear S1
  go_wp2_with fail
  refine (zsRanksG HS.out.p3).mono ?_
  rintro en w2 ⟨rfl, S2⟩
  rw [← HFR.out, ← HTT.out]
  have HS2 := Lib.hid S2
  clear S2 HS p0 p1 p2 q0 q1 q2
  go_wp2_with fail
  go_ret
  exact ⟨rfl, HS2.out.p2.drop1.p2.drop1⟩
/-- What 'Range' tells. -/
def rangeI (l : List Sc) (f t : Nat) (back : Bool) (skip count : Int) : List Sc :=
  if skip < 0 ∨ ((t : Int) - f ≤ skip) ∨ count = 0 then [] else
    let m : Int := if 0 < count then min ((t : Int) - f - skip) count + skip else (t : Int) - f
    if back then cutS l ((l.length : Int) - t + skip) ((l.length : Int) - t + m - 1) true else cutS l (f + skip) (f + m - 1) false
set_option maxHeartbeats 8000000 in
/-- 'Range'. -/
theorem zsRange {w0 w : World} {s : Nat} {li ls hi hs skip count : Int} {lo ho back : Bool} {l : List Sc} {R : HP} (hs63 : skip ≤ 9223372036854775807) (hc63 : count ≤ 9223372036854775807) (S : Sat w0 w (zs s l * R)) :
    Calls Try.prog 17 #[pt s, bndV li ls lo, bndV hi hs ho, .bool back, .int .i64 skip, .int .i64 count] w fun en w' => ∃ v, en = .returned v ∧ Sat w0 w' (rS v (rangeI l (fromI l li ls lo) (upI l li ls lo hi hs ho) back skip count) * (zs s l * R)) := by
  obtain ⟨fr, hfr⟩ : ∃ fr, fr = fromI l li ls lo := ⟨_, rfl⟩
  obtain ⟨tt, htt⟩ : ∃ tt, tt = upI l li ls lo hi hs ho := ⟨_, rfl⟩
  have hb := S.zs_big
  have hft : fr ≤ tt := by rw [hfr, htt]; exact Nat.le_max_left _ _
  have htl : tt ≤ l.length := by rw [htt]; exact upI_le l li ls lo hi hs ho
  have h1 : (fr : Int) ≤ 1000000 := by omega
  have h2 : (tt : Int) ≤ 1000000 := by omega
  have h3 : (l.length : Int) ≤ 1000000 := by omega
  rw [← hfr, ← htt]
  have HFT := Lib.hid hft
  have HTL := Lib.hid htl
  have HFR := Lib.hid hfr
  have HTT := Lib.hid htt
  obtain ⟨b1, hb1⟩ : ∃ b1, b1 = w.heap.size := ⟨_, rfl⟩
  have S0 := (S.alloc (bndO li ls lo)).alloc (bndO hi hs ho)
  rw [World.size_alloc, ← hb1] at S0
  have HS := Lib.hid S0
  have HB1 := Lib.hid hb1
  clear S S0 hfr htt hb1 hb hft htl
  go_enter Try.func17, Try.ntmps17
  go_upto_region 1 with (fail)
  rw [← HB1.out]
  refine gen_w HS.out ?_
  clear HS HB1
  intro w1 S1
  have HS := Lib.hid S1
  obtain ⟨p0, p1, p2, -⟩ := blk3 S1.p2.blk
  obtain ⟨q0, q1, q2, -⟩ := blk3 S1.blk
  clear S1
  go_wp2_with fail
  refine (zsRanksG HS.out.p3).mono ?_
  rintro en w2 ⟨rfl, S2⟩
  rw [← HFR.out, ← HTT.out]
  have HS2 := Lib.hid S2.p2.drop1.p2.drop1
  clear S2 HS p0 p1 p2 q0 q1 q2
  go_upto_region 2 with (fail)
  by_cases hA : skip < 0
  · have HE : Hid (rangeI l fr tt back skip count = []) := Lib.hid (by unfold rangeI; rw [if_pos (.inl hA)])
    have hAd : decide (skip < 0) = true := by simpa using hA
    go_wp2_with fail
    go_ret
    exact ⟨_, rfl, by rw [HE.out]; exact HS2.out.row_nil _ _⟩
  have hAd : decide (skip < 0) = false := by simpa using hA
  by_cases hB : (tt : Int) - fr ≤ skip
  · have HE : Hid (rangeI l fr tt back skip count = []) := Lib.hid (by unfold rangeI; rw [if_pos (.inr (.inl hB))])
    have hBd : decide ((tt : Int) - fr ≤ skip) = true := by simpa using hB
    go_wp2_with fail
    go_ret
    exact ⟨_, rfl, by rw [HE.out]; exact HS2.out.row_nil _ _⟩
  have hBd : decide ((tt : Int) - fr ≤ skip) = false := by simpa using hB
  by_cases hC : count = 0
  · have HE : Hid (rangeI l fr tt back skip count = []) := Lib.hid (by unfold rangeI; rw [if_pos (.inr (.inr hC))])
    have hCd : (count == 0) = true := by simpa using hC
    clear hC
    go_wp2_with fail
    go_ret
    exact ⟨_, rfl, by rw [HE.out]; exact HS2.out.row_nil _ _⟩
  have hCd : (count == 0) = false := by simpa using hC
  have hnil : ¬ (skip < 0 ∨ (tt : Int) - fr ≤ skip ∨ count = 0) := by omega
  obtain ⟨m, hm⟩ : ∃ m : Int, m = if 0 < count then min ((tt : Int) - fr - skip) count + skip else (tt : Int) - fr := ⟨_, rfl⟩
  have hm1 : skip < m := by rw [hm]; split <;> omega
  have hm2 : m ≤ (tt : Int) - fr := by rw [hm]; split <;> omega
  have HFB : Hid (rangeI l fr tt back skip count = if back then cutS l ((l.length : Int) - tt + skip) ((l.length : Int) - tt + m - 1) true else cutS l (fr + skip) (fr + m - 1) false) := Lib.hid (by unfold rangeI; rw [if_neg hnil, ← hm])
  have HM1 := Lib.hid hm1
  have HM2 := Lib.hid hm2
  have hsm : skip ≤ 1000000 := by omega
  have hm0 : 0 ≤ m := by omega
  have hm6 : m ≤ 1000000 := by omega
  clear hC hnil hm1 hm2
  go_upto_region 5 with (fail)
  by_cases hP : 0 < count
  · have hPd : decide (0 < count) = true := by simpa using hP
    have hq0 : 0 ≤ min ((tt : Int) - fr - skip) count + skip := by omega
    have hq1 : min ((tt : Int) - fr - skip) count + skip ≤ 1000000 := by omega
    have HMM := Lib.hid (show (fr : Int) + (min ((tt : Int) - fr - skip) count + skip) - 1 = fr + m - 1 by rw [hm, if_pos hP])
    have HMN := Lib.hid (show (l.length : Int) - tt + (min ((tt : Int) - fr - skip) count + skip) - 1 = (l.length : Int) - tt + m - 1 by rw [hm, if_pos hP])
    clear hm hP
    cases back with
    | false =>
      go_wp2_with fail
      rw [HMM.out]
      refine (zsCutG (.inr ⟨by omega, by have := HTL.out; have := HM2.out; omega⟩) HS2.out).mono ?_
      rintro en w3 ⟨v, rfl, S3⟩
      rw [show cutS l (fr + skip) (fr + m - 1) false = rangeI l fr tt false skip count from HFB.out.symm] at S3
      have HS3 := Lib.hid S3
      clear S3 HS2
      go_wp2_with fail
      go_ret
      exact ⟨_, rfl, HS3.out⟩
    | true =>
      go_wp2_with fail
      refine (zsLen HS2.out).mono ?_
      rintro en w' ⟨rfl, rfl⟩
      go_wp2_with fail
      rw [HMN.out]
      refine (zsCutG (.inr ⟨by have := HTL.out; omega, by have := HFT.out; have := HM2.out; omega⟩) HS2.out).mono ?_
      rintro en w3 ⟨v, rfl, S3⟩
      rw [show cutS l ((l.length : Int) - tt + skip) ((l.length : Int) - tt + m - 1) true = rangeI l fr tt true skip count from HFB.out.symm] at S3
      have HS3 := Lib.hid S3
      clear S3 HS2
      go_wp2_with fail
      go_ret
      exact ⟨_, rfl, HS3.out⟩
  · have hPd : decide (0 < count) = false := by simpa using hP
    have hm' : m = (tt : Int) - fr := by rw [hm, if_neg hP]
    have HMM := Lib.hid (show (fr : Int) + ((tt : Int) - fr) - 1 = fr + m - 1 by omega)
    have HMN := Lib.hid (show (l.length : Int) - tt + ((tt : Int) - fr) - 1 = (l.length : Int) - tt + m - 1 by omega)
    clear hm hP hm'
    cases back with
    | false =>
      go_wp2_with fail
      rw [HMM.out]
      refine (zsCutG (.inr ⟨by omega, by have := HTL.out; have := HM2.out; omega⟩) HS2.out).mono ?_
      rintro en w3 ⟨v, rfl, S3⟩
      rw [show cutS l (fr + skip) (fr + m - 1) false = rangeI l fr tt false skip count from HFB.out.symm] at S3
      have HS3 := Lib.hid S3
      clear S3 HS2
      go_wp2_with fail
      go_ret
      exact ⟨_, rfl, HS3.out⟩
    | true =>
      go_wp2_with fail
      refine (zsLen HS2.out).mono ?_
      rintro en w' ⟨rfl, rfl⟩
      go_wp2_with fail
      rw [HMN.out]
      refine (zsCutG (.inr ⟨by have := HTL.out; omega, by have := HFT.out; have := HM2.out; omega⟩) HS2.out).mono ?_
      rintro en w3 ⟨v, rfl, S3⟩
      rw [show cutS l ((l.length : Int) - tt + skip) ((l.length : Int) - tt + m - 1) true = rangeI l fr tt true skip count from HFB.out.symm] at S3
      have HS3 := Lib.hid S3
      clear S3 HS2
      go_wp2_with fail
      go_ret
      exact ⟨_, rfl, HS3.out⟩
end Go.Sl
