/-
  Package timer's functions by the list of all keys in order.
-/
import Derived.Test.YtgkjendknckibaaTmA
namespace Go.Sl
open Go.RowKit Go.Proofs Go.Proofs.YtgkjendknckibaaW.PrintWords Go.Proofs.Ytgkjendknckibaa.PTim
set_option linter.unusedVariables false
set_option linter.unusedSimpArgs false
set_option maxRecDepth 100000

/-- The timer at o has r, in order. -/
def tmb (o : Nat) (r : List Tm) : HP := ex fun hs : List Tm => wh (TS hs r) (tmr o hs)
section
variable {w0 w : World} {o : Nat} {r : List Tm} {R : HP}
theorem Sat.tb_open (S : Sat w0 w (tmb o r * R)) : ∃ hs, TS hs r ∧ TOk hs ∧ Sat w0 w (tmr o hs * R) := by
  obtain ⟨hs, S⟩ := S.ex1
  obtain ⟨h, S⟩ := S.wh1
  obtain ⟨_, _, hok, -⟩ := S.tm_open
  exact ⟨hs, h, hok, S⟩
theorem Sat.tb_shut {hs : List Tm} (h : TS hs r) (S : Sat w0 w (tmr o hs * R)) : Sat w0 w (tmb o r * R) := by
  unfold tmb
  exact Sat.mk_ex1 hs (Sat.mk_wh1 h S)
end
def keysOk (r : List Tm) : Prop := (r.map (·.f0)).Nodup
theorem TS.keys {hs r : List Tm} (h : TS hs r) (ho : TOk hs) : keysOk r := (h.perm.map _).nodup_iff.1 ho.ks
theorem findT_mem {r : List Tm} (hn : keysOk r) {x : Tm} (hx : x ∈ r) : findT r x.f0 = some x := by
  obtain ⟨i, hi, rfl⟩ := List.getElem_of_mem hx
  cases hf : findT r r[i].f0 with
  | none => exact absurd (List.mem_map.2 ⟨r[i], hx, rfl⟩) (findT_none hf)
  | some y =>
    obtain ⟨j, hj, rfl, hk⟩ := findT_at hf
    have : j = i := (List.getElem_inj (xs := r.map (·.f0)) (h₀ := by simpa using hj) (h₁ := by simpa using hi) (show (r.map (·.f0)).Nodup from hn)).1 (by simpa using hk)
    subst this; rfl
theorem findT_perm {hs r : List Tm} (hp : hs.Perm r) (hn : keysOk r) (key : ByteArray) : findT hs key = findT r key := by
  cases hf : findT hs key with
  | none =>
    cases hg : findT r key with
    | none => rfl
    | some y =>
      obtain ⟨hy, hk⟩ := findT_some hg
      exact absurd (List.mem_map.2 ⟨y, hp.mem_iff.2 hy, hk⟩) (findT_none hf)
  | some x =>
    obtain ⟨hx, hk⟩ := findT_some hf
    rw [← hk]
    exact (findT_mem hn (hp.mem_iff.1 hx)).symm
/-- A key's time put in. -/
def insT (r : List Tm) (x : Tm) : List Tm := (r.takeWhile fun y => ltT y x) ++ x :: (r.dropWhile fun y => ltT y x)
def setL (r : List Tm) (key : ByteArray) (t : Int) : List Tm := insT (lessT r key) ⟨key, t⟩
theorem insT_perm (r : List Tm) (x : Tm) : (insT r x).Perm (r ++ [x]) := by
  unfold insT
  refine List.perm_middle.trans ?_
  rw [List.takeWhile_append_dropWhile]
  exact (List.perm_append_singleton x r).symm
theorem srt_less {r : List Tm} (h : Srt r) (key : ByteArray) : Srt (lessT r key) := h.filter _
theorem insT_srt {r : List Tm} (h : Srt r) {x : Tm} (hx : ∀ y ∈ r, y.f0 ≠ x.f0) : Srt (insT r x) := by
  unfold insT Srt
  have hs : Srt (r.takeWhile (fun y => ltT y x) ++ r.dropWhile fun y => ltT y x) := by rw [List.takeWhile_append_dropWhile]; exact h
  obtain ⟨h1, h2, h3⟩ := List.pairwise_append.1 hs
  have ht : ∀ y ∈ r.takeWhile (fun y => ltT y x), ltT y x = true := fun y hy => by
    have := List.all_takeWhile (p := fun y => ltT y x) (l := r)
    exact List.all_eq_true.1 this y hy
  have hd : ∀ y ∈ r.dropWhile (fun y => ltT y x), ltT x y = true := fun y hy => by
    cases hdw : r.dropWhile (fun y => ltT y x) with
    | nil => rw [hdw] at hy; cases hy
    | cons z t =>
      have hz : ltT z x = false := by
        have := List.head?_dropWhile_not (fun y => ltT y x) r
        rw [hdw] at this
        simpa using this
      have hzr : z ∈ r := (List.dropWhile_sublist _).subset (by rw [hdw]; exact List.mem_cons_self ..)
      have hxz : ltT x z = true := by
        cases e : ltT x z with
        | true => rfl
        | false => exact absurd (by rw [ltT_total hz e]) (hx z hzr)
      rw [hdw] at hy h2
      rcases List.mem_cons.1 hy with rfl | hy
      · exact hxz
      · exact ltT_trans hxz ((List.pairwise_cons.1 h2).1 y hy)
  refine List.pairwise_append.2 ⟨h1, List.pairwise_cons.2 ⟨hd, h2⟩, fun a ha b hb => ?_⟩
  rcases List.mem_cons.1 hb with rfl | hb
  · exact ht a ha
  · exact h3 a ha b hb
theorem lessT_key {r : List Tm} {key : ByteArray} : ∀ y ∈ lessT r key, y.f0 ≠ key := fun y hy => by
  have := (List.mem_filter.1 hy).2
  simpa using this
theorem setL_ts {hs hs' r : List Tm} {key : ByteArray} {t : Int} (h : TS hs r) (hh : Heap hs') (hp : hs'.Perm (lessT hs key ++ [⟨key, t⟩])) : TS hs' (setL r key t) where
  heap := hh
  perm := hp.trans ((List.Perm.append_right _ (h.perm.filter _)).trans (insT_perm _ _).symm)
  srt := insT_srt (srt_less h.srt key) lessT_key
theorem dropL_ts {hs hs' r : List Tm} {key : ByteArray} (h : TS hs r) (hh : Heap hs') (hp : hs'.Perm (lessT hs key)) : TS hs' (lessT r key) where
  heap := hh
  perm := hp.trans (h.perm.filter _)
  srt := srt_less h.srt key
theorem tbNew {w0 w : World} {R : HP} (S : Sat w0 w R) : Calls Try.prog 13 #[] w fun en w' => ∃ o, en = .returned (pt o) ∧ Sat w0 w' (tmb o [] * R) := by
  refine (tmNew S).mono ?_
  rintro en w' ⟨o, rfl, S1⟩
  exact ⟨o, rfl, Sat.tb_shut ⟨fun j hj => by simp at hj, .refl _, List.Pairwise.nil⟩ S1⟩
theorem tbLen {w0 w : World} {o : Nat} {r : List Tm} {R : HP} (S : Sat w0 w (tmb o r * R)) : Calls Try.prog 17 #[pt o] w fun en w' => en = .returned (.int .i64 r.length) ∧ w' = w := by
  obtain ⟨hs, ht, hok, S1⟩ := S.tb_open
  refine (tmLen S1).mono ?_
  rintro en w' ⟨rfl, rfl⟩
  exact ⟨by rw [ht.perm.length_eq], rfl⟩
def atV (r : List Tm) (key : ByteArray) : Value := .tuple #[.int .i64 (((findT r key).map (·.f1)).getD 0), .bool (findT r key).isSome]
theorem tbAt {w0 w : World} {o : Nat} {r : List Tm} {key : ByteArray} {R : HP} (S : Sat w0 w (tmb o r * R)) : Calls Try.prog 19 #[pt o, .string key] w fun en w' => en = .returned (atV r key) ∧ w' = w := by
  obtain ⟨hs, ht, hok, S1⟩ := S.tb_open
  refine (tmAt S1).mono ?_
  rintro en w' ⟨rfl, rfl⟩
  exact ⟨by rw [findT_perm ht.perm (ht.keys hok)]; rfl, rfl⟩
theorem tbFirst {w0 w : World} {o : Nat} {r : List Tm} {R : HP} (S : Sat w0 w (tmb o r * R)) : Calls Try.prog 18 #[pt o] w fun en w' => en = .returned (firstV r) ∧ Sat w0 w' (tmb o r * R) := by
  obtain ⟨hs, ht, hok, S1⟩ := S.tb_open
  refine (tmFirst S1).mono ?_
  rintro en w' ⟨rfl, S2⟩
  refine ⟨?_, S2.tb_shut ht⟩
  cases r with
  | nil =>
    have : hs = [] := List.eq_nil_of_length_eq_zero (by rw [ht.perm.length_eq]; rfl)
    rw [this]
  | cons x t =>
    have hne : hs.isEmpty = false := by
      cases hs with
      | nil => have := ht.perm.length_eq; simp at this
      | cons _ _ => rfl
    unfold firstV
    rw [ht.first, hne]; rfl
theorem tbSet {w0 w : World} {o : Nat} {r : List Tm} {key : ByteArray} {t : Int} {R : HP} (hl : r.length < 1000000) (S : Sat w0 w (tmb o r * R)) :
    Calls Try.prog 14 #[pt o, .string key, .int .i64 t] w fun en w' => en = .returned (.bool (!(findT r key).isSome)) ∧ Sat w0 w' (tmb o (setL r key t) * R) := by
  obtain ⟨hs, ht, hok, S1⟩ := S.tb_open
  rw [← findT_perm ht.perm (ht.keys hok)]
  cases hf : findT hs key with
  | none =>
    refine (tmSet_new hf (by rw [ht.perm.length_eq]; exact hl) ht.heap S1).mono ?_
    rintro en w' ⟨rfl, hs', hh, hp, S2⟩
    exact ⟨rfl, S2.tb_shut (setL_ts ht hh hp)⟩
  | some x =>
    obtain ⟨i, hi, rfl, rfl⟩ := findT_at hf
    refine (tmSet_old hi ht.heap S1).mono ?_
    rintro en w' ⟨rfl, hs', hh, hp, S2⟩
    exact ⟨rfl, S2.tb_shut (setL_ts ht hh hp)⟩
theorem tbDrop {w0 w : World} {o : Nat} {r : List Tm} {key : ByteArray} {R : HP} (S : Sat w0 w (tmb o r * R)) :
    Calls Try.prog 22 #[pt o, .string key] w fun en w' => en = .returned (.bool (findT r key).isSome) ∧ Sat w0 w' (tmb o (lessT r key) * R) := by
  obtain ⟨hs, ht, hok, S1⟩ := S.tb_open
  rw [← findT_perm ht.perm (ht.keys hok)]
  cases hf : findT hs key with
  | none =>
    refine (tmDrop_none hf S1).mono ?_
    rintro en w' ⟨rfl, rfl⟩
    refine ⟨rfl, ?_⟩
    rw [lessT_none (by rw [← findT_perm ht.perm (ht.keys hok)]; exact hf)]
    exact S1.tb_shut ht
  | some x =>
    obtain ⟨i, hi, rfl, rfl⟩ := findT_at hf
    refine (tmDrop_in hi ht.heap S1).mono ?_
    rintro en w' ⟨rfl, hs', hh, hp, S2⟩
    exact ⟨rfl, S2.tb_shut (dropL_ts ht hh hp)⟩
theorem tbAll {w0 w : World} {o : Nat} {r : List Tm} {R : HP} (S : Sat w0 w (tmb o r * R)) :
    Calls Try.prog 15 #[pt o] w fun en w' => ∃ v, en = .returned v ∧ Sat w0 w' (row 36 2 v r.length (r.flatMap encT) * (tmb o r * R)) := by
  obtain ⟨hs, ht, hok, S1⟩ := S.tb_open
  refine (tmAll ht.perm.symm ht.srt S1).mono ?_
  rintro en w' ⟨v, rfl, S2⟩
  exact ⟨v, rfl, (S2.p2.tb_shut ht).p2⟩
theorem tbDue {w0 w : World} {o : Nat} {r : List Tm} {now : Int} {R : HP} (S : Sat w0 w (tmb o r * R)) :
    Calls Try.prog 16 #[pt o, .int .i64 now] w fun en w' => ∃ v, en = .returned v ∧ Sat w0 w' (row 9 1 v ((dueOf r now).map (·.f0)).length (((dueOf r now).map (·.f0)).map Value.string) * (tmb o (leftOf r now) * R)) := by
  obtain ⟨hs, ht, hok, S1⟩ := S.tb_open
  refine (tmDue ht S1).mono ?_
  rintro en w' ⟨v, rfl, hs', ht', S2⟩
  refine ⟨v, rfl, ?_⟩
  rw [List.length_map, List.map_map]
  exact (S2.p2.tb_shut ht').p2
theorem tmDue_nil (now : Int) (w : World) : Calls Try.prog 16 #[.pointer none, .int .i64 now] w fun en w' => en = .returned (.slice none 0 0) ∧ w' = w := by
  go_enter Try.func16, Try.ntmps16
  go_wp2_with fail
  go_loopw [5] (fun v5 wr => v5 = .slice none 0 0 ∧ wr = w) (fun _ _ => 0)
  case atStart => exact ⟨rfl, rfl⟩
  case round =>
    obtain ⟨rfl, rfl⟩ := hrel
    go_wp2_with fail
    refine (tmLen_nil _).mono ?_
    rintro en w1 ⟨rfl, rfl⟩
    go_wp2_with fail
    go_ret
    exact ⟨rfl, rfl⟩
theorem tmSet_nil (key : ByteArray) (t : Int) (w : World) : Calls Try.prog 14 #[.pointer none, .string key, .int .i64 t] w fun en w' => en = .returned (.bool false) ∧ w' = w := by
  go_enter Try.func14, Try.ntmps14
  go_wp2_with fail
  go_ret
  exact ⟨rfl, rfl⟩
theorem tbSet_zero {w0 w : World} {o : Nat} {key : ByteArray} {t : Int} {R : HP} (S : Sat w0 w (ztm o * R)) :
    Calls Try.prog 14 #[pt o, .string key, .int .i64 t] w fun en w' => en = .returned (.bool true) ∧ Sat w0 w' (tmb o [⟨key, t⟩] * R) := by
  refine (tmSet_zero (hs := []) rfl S).mono ?_
  rintro en w' ⟨rfl, hs', hh, hp, S2⟩
  exact ⟨rfl, S2.tb_shut ⟨hh, hp, List.pairwise_singleton _ _⟩⟩
end Go.Sl
