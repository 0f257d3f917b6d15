/-
  The contracts of package timer's functions: All, Due.
-/
import Derived.Test.YtgkjendknckibaaTmV
import Derived.Test.YtgkjendknckibaaSoK
import Derived.Test.YtgkjendknckibaaShT
import Derived.Test.YtgkjendknckibaaAp
import Derived.Lib.Bytealg
namespace Go.Sl
open Go.RowKit Go.Proofs Go.Proofs.YtgkjendknckibaaW.PrintWords Go.Proofs.Ytgkjendknckibaa.PTim Go.Sort
set_option linter.unusedVariables false
set_option linter.unusedSimpArgs false
set_option maxRecDepth 100000

def cmpB (a b : ByteArray) : Int := Lib.compareBytes a.data.toList b.data.toList
theorem cmpBa (a b : ByteArray) (w : World) : Calls Try.prog 61 #[.string a, .string b] w fun en w' => en = .returned (.int .i64 (cmpB a b)) ∧ w' = w := by
  go_enter Try.func61, Try.ntmps61
  go_wp2_with fail
  rw [run_callFunc_extern Try.func79 (by kernel_rfl) (by kernel_rfl) (by kernel_rfl) (e := Extern.BytealgCompare.compare) (by kernel_rfl), Lib.run_compareString]
  simp only [Result.andThen]
  rw [Oper.upon_value]
  go_wp2_with fail
  go_ret
  exact ⟨rfl, rfl⟩
theorem cmpStr (a b : ByteArray) (w : World) : Calls Try.prog 48 #[.string a, .string b] w fun en w' => en = .returned (.int .i64 (cmpB a b)) ∧ w' = w := by
  go_enter Try.func48, Try.ntmps48
  go_wp2_with fail
  refine (cmpBa a b _).mono ?_
  rintro en w1 ⟨rfl, rfl⟩
  go_wp2_with fail
  go_ret
  exact ⟨rfl, rfl⟩
theorem cmpBytes_lt : ∀ a b : List UInt8, Lib.compareBytes a b < 0 ↔ a < b
  | [], [] => by simp [Lib.compareBytes]
  | [], _ :: _ => by simp [Lib.compareBytes]
  | _ :: _, [] => by simp [Lib.compareBytes]
  | x :: a, y :: b => by
    unfold Lib.compareBytes
    rw [List.cons_lt_cons_iff]
    by_cases h1 : x < y
    · simp [h1]
    · rw [if_neg h1]
      by_cases h2 : y < x
      · rw [if_pos h2]
        have : x ≠ y := fun e => UInt8.lt_irrefl x (e ▸ h2)
        simp [h1, this]
      · rw [if_neg h2, cmpBytes_lt a b]
        have : x = y := UInt8.le_antisymm (UInt8.not_lt.1 h2) (UInt8.not_lt.1 h1)
        simp [h1, this]
def cfT (x y : Tm) : Int := if x.f1 < y.f1 then -1 else if y.f1 < x.f1 then 1 else cmpB x.f0 y.f0
theorem ltCf (x y : Tm) : ltOf cfT x y = ltT x y := by
  unfold ltOf
  rw [Bool.eq_iff_iff, ltT_iff, decide_eq_true_iff]
  unfold cfT
  by_cases h1 : x.f1 < y.f1
  · simp [h1]
  · rw [if_neg h1]
    by_cases h2 : y.f1 < x.f1
    · rw [if_pos h2]
      constructor
      · intro h; omega
      · rintro (h | ⟨h, _⟩) <;> omega
    · rw [if_neg h2]
      have e : x.f1 = y.f1 := by omega
      unfold cmpB
      rw [cmpBytes_lt, ByteArray.toList_eq, ByteArray.toList_eq]
      simp [e]
theorem swoT : SWO (ltOf cfT) where
  irrefl x := by rw [ltCf]; exact ltT_irrefl x
  trans x y z h1 h2 := by rw [ltCf] at *; exact ltT_trans h1 h2
  ntrans x y z h1 h2 := by rw [ltCf] at *; exact le_trans' h1 h2
set_option maxHeartbeats 4000000 in
/-- 'func(a, b api.Timed) int': two boxes are laid. -/
theorem cmpTm (x y : Tm) (W : World) : Calls Try.prog 47 #[.agg #[.string x.f0, .int .i64 x.f1], .agg #[.string y.f0, .int .i64 y.f1]] W fun en w' => en = .returned (.int .i64 (cfT x y)) ∧ w' = (W.alloc (.cells #[.string x.f0, .int .i64 x.f1] 36)).alloc (.cells #[.string y.f0, .int .i64 y.f1] 36) := by
  by_cases h1 : x.f1 < y.f1
  · have e : cfT x y = -1 := by unfold cfT; rw [if_pos h1]
    rw [e]
    generalize x.f1 = a at *
    generalize y.f1 = b at *
    have d1 : decide (a < b) = true := decide_eq_true h1
    clear e h1
    go_enter Try.func47, Try.ntmps47
    go_wp2_with fail
    go_ret
    exact ⟨rfl, rfl⟩
  · by_cases h2 : y.f1 < x.f1
    · have e : cfT x y = 1 := by unfold cfT; rw [if_neg h1, if_pos h2]
      rw [e]
      generalize x.f1 = a at *
      generalize y.f1 = b at *
      have d1 : decide (a < b) = false := decide_eq_false h1
      have d2 : decide (b < a) = true := decide_eq_true h2
      clear e h1
      go_enter Try.func47, Try.ntmps47
      go_wp2_with fail
      go_ret
      exact ⟨rfl, rfl⟩
    · have e : cfT x y = cmpB x.f0 y.f0 := by unfold cfT; rw [if_neg h1, if_neg h2]
      rw [e]
      generalize x.f1 = a at *
      generalize y.f1 = b at *
      have d1 : decide (a < b) = false := decide_eq_false h1
      have d2 : decide (b < a) = false := decide_eq_false h2
      clear e h1 h2
      go_enter Try.func47, Try.ntmps47
      go_wp2_with fail
      refine (cmpStr _ _ _).mono ?_
      rintro en w1 ⟨rfl, rfl⟩
      go_wp2_with fail
      go_ret
      exact ⟨rfl, rfl⟩
/-- In order, none twice. -/
def Srt (r : List Tm) : Prop := r.Pairwise fun a b => ltT a b = true
theorem srt_unique {d r : List Tm} (hp : d.Perm r) (hd : d.Pairwise fun a b => ltT b a = false) (hr : Srt r) : d = r :=
  List.Perm.eq_of_pairwise (le := fun a b => ltT b a = false) (fun a b _ _ h1 h2 => ltT_total h2 h1) hd (hr.imp fun h => lt_asymm' h) hp
/-- The sort. -/
theorem sortTm {w0 w : World} {g cap : Nat} {hs r : List Tm} {R : HP} (hp : r.Perm hs) (hr : Srt r) (hsz : hs.length < 4611686018427387904)
    (S : Sat w0 w (row 36 2 (.slice (some ⟨g, 0, none⟩) hs.length cap) hs.length (hs.flatMap encT) * R)) :
    Calls Try.prog 46 #[.slice (some ⟨g, 0, none⟩) hs.length cap, .func (.func 47) #[] #[]] w fun en w' => en = .returned (.tuple #[]) ∧
      Sat w0 w' (row 36 2 (.slice (some ⟨g, 0, none⟩) hs.length cap) hs.length (r.flatMap encT) * R) := by
  obtain ⟨d, hd⟩ : ∃ d : Array Tm, d = hs.toArray := ⟨_, rfl⟩
  have hdl : d.toList = hs := by rw [hd]
  have hds : hs.length = d.size := by rw [hd]; simp
  rw [hds] at S
  rw [← hdl] at S
  have eg : ∀ args w, (callFunc 47 args).run Try.prog w = .ok (.enter 47 args) w := enters_of Try.func47 (by kernel_rfl) rfl
  have hcmp : CmpLays Try.prog 47 #[] encT 2 cfT g 0 d.size w := by
    intro m os dk hk x y
    refine (cmpTm x y _).mono ?_
    rintro e w' ⟨he, rfl⟩
    exact ⟨he, 0, _, by rw [alloc_eq_grow, alloc_eq_grow, grow_grow]; rfl⟩
  have hcon := AnyQ.slices_SortFunc Try.sortT 2 Try.isAgg36 Try.sizeOf36 encT (fun _ => rfl) (fun x v hv => by simp [encT] at hv; rcases hv with rfl | rfl <;> rfl) cfT swoT 47 #[] g 0 cap d w eg hcmp (Sat.row_holdsK flatT S) (by
    obtain ⟨_, h⟩ := S.row_open
    rcases h with ⟨h0, _⟩ | ⟨g2, cap2, cur, hv, _, _, _, _, S1⟩
    · cases h0
    · injection hv with hv; injection hv with hv; injection hv with hv
      subst hv; exact S1.lt) (by rw [← hds]; exact hsz)
  change Calls Try.prog 46 _ _ _ at hcon
  rw [hds]
  refine hcon.mono ?_
  rintro e w' ⟨he, d', m, os, hpi, hs', rfl⟩
  refine ⟨he, ?_⟩
  obtain ⟨p1, p2, p3⟩ := hpi
  rw [show d.extract 0 d.size = d from by simp, show d'.extract 0 d.size = d' from by rw [← p1]; simp] at p3
  rw [← p1] at hs'
  have ek : d'.toList = r := srt_unique (p3.trans (by rw [hdl]; exact hp.symm)) (List.pairwise_iff_getElem.2 fun i j hi hj hij => by
    have hi' : i < d'.size := by simpa using hi
    have hj' : j < d'.size := by simpa using hj
    have := hs' i j (Nat.zero_le _) hij hj'
    rw [getElem!_pos d' i hi', getElem!_pos d' j hj', ltCf] at this
    rw [Array.getElem_toList, Array.getElem_toList]; exact this) hr
  rw [← p1] at S ⊢
  rw [← ek]
  exact Sat.row_worldK flatT S m os
set_option maxHeartbeats 4000000 in
/-- slices.Clone. -/
theorem tmClone {w0 w : World} {v : Value} {n : Nat} {xs : List Value} {R : HP} (hn : n ≤ 1000000) (ho : ∀ u ∈ xs, u.oneCell' = true) (S : Sat w0 w (row 36 2 v n xs * R)) :
    Calls Try.prog 45 #[v] w fun en w' => ∃ v', en = .returned v' ∧ Sat w0 w' (row 36 2 v' n xs * (row 36 2 v n xs * R)) := by
  obtain ⟨hl, h⟩ := S.row_open
  have q24 : ∀ (w : World) (a : Option Addr) (n c n' c' : Nat), (binOp .eql 30 (.slice a n c) (.slice none n' c')).run Try.prog w = .ok (.bool a.isNone) w := fun w a n c n' c' => Lib.run_eql_slice_nil w _ _ a n c n' c' Try.underlying30
  rcases h with ⟨rfl, h0, hx, _⟩ | ⟨g, cap, cur, rfl, hnc, hm, hsz, ht, S1⟩
  · have HS := Lib.hid S
    have HX := Lib.hid hx
    have H0 := Lib.hid h0
    clear S hx h0 hl ho
    go_enter Try.func45, Try.ntmps45
    go_wp2_with fail
    go_ret
    exact ⟨_, rfl, by rw [HX.out, H0.out]; exact Sat.row_nil (by have := HS.out; rw [HX.out, H0.out] at this; exact this) _ _⟩
  · have S2 := (Sat.row_new (n := 0) (e := 36) (sz := 2) (cur := #[]) S (by simp) (by omega))
    have hc : ∀ j u, xs[j]? = some u → (w.alloc (.cells #[] 36)).cell? ((⟨g, 0, none⟩ : Addr).add j) = some u := fun j u hj => by
      obtain ⟨g', e1, hc⟩ := S2.p2.row_cells j u hj
      injection e1 with e1
      injection e1 with e1
      subst e1
      rw [Addr.add_lit, Nat.zero_add]
      exact hc
    obtain ⟨v', w6, hr, S3⟩ := S2.run_append 30 30 Try.underlying30 tmInfo rfl (by decide) ⟨g, 0, none⟩ n cap xs hl hc ho (by unfold maxLen; omega) (by omega)
    have HS3 := Lib.hid S3
    clear S S1 S2 S3 hc ht hl hsz ho
    go_enter Try.func45, Try.ntmps45
    go_wp2_with (at_builtin; refine wpList_append_eq rfl _ _ _ _ rfl rfl rfl hr ?_)
    go_ret
    exact ⟨_, rfl, HS3.out.cong (by simp)⟩
theorem flat_one (hs : List Tm) : ∀ u ∈ hs.flatMap encT, u.oneCell' = true := fun u hu => by
  obtain ⟨x, _, hx⟩ := List.mem_flatMap.1 hu
  simp [encT] at hx
  rcases hx with rfl | rfl <;> rfl
/-- 'All'. -/
theorem tmAll_nil (w : World) : Calls Try.prog 15 #[.pointer none] w fun en w' => en = .returned (.slice none 0 0) ∧ w' = w := by
  go_enter Try.func15, Try.ntmps15
  go_wp2_with fail
  go_ret
  exact ⟨rfl, rfl⟩
set_option maxHeartbeats 4000000 in
theorem tmAll {w0 w : World} {o : Nat} {hs r : List Tm} {R : HP} (hp : r.Perm hs) (hr : Srt r) (S : Sat w0 w (tmr o hs * R)) :
    Calls Try.prog 15 #[pt o] w fun en w' => ∃ v, en = .returned v ∧ Sat w0 w' (row 36 2 v r.length (r.flatMap encT) * (tmr o hs * R)) := by
  obtain ⟨A, cap, mb, hok, hA, S1⟩ := S.tm_slice
  obtain ⟨c0, c1, -⟩ := blk2 S1.blk
  have hlen := hok.len
  have hpl := hp.length_eq
  have HOK := Lib.hid hok
  have HS := Lib.hid S1.p2
  have HP := Lib.hid hp
  have HR := Lib.hid hr
  have HPL := Lib.hid hpl
  clear S S1 hok hA hp hr hpl
  go_enter Try.func15, Try.ntmps15
  go_wp2_with fail
  refine (tmClone hlen (flat_one hs) HS.out).mono ?_
  rintro en w1 ⟨v, rfl, S2⟩
  have S3 : Sat w0 w1 (row 36 2 v hs.length (hs.flatMap encT) * (tmr o hs * R)) := ((Sat.tm_shut HOK.out (v := .slice A hs.length cap) (mb := mb) (R := row 36 2 v hs.length (hs.flatMap encT) * R) (S2.cong (by ac_rfl))).p2)
  clear S2 HS c0 c1
  by_cases hz : hs.length = 0
  · have h0 : hs = [] := List.eq_nil_of_length_eq_zero hz
    obtain ⟨A2, c2, rfl⟩ : ∃ A2 c2, v = .slice A2 0 c2 := by
      obtain ⟨_, h⟩ := S3.row_open
      rcases h with ⟨rfl, _⟩ | ⟨g, cap, cur, rfl, _⟩
      · exact ⟨_, _, rfl⟩
      · rw [hz]; exact ⟨_, _, rfl⟩
    have HS3 := Lib.hid S3
    have H0 := Lib.hid h0
    clear S3 h0 hz
    go_wp2_with fail
    refine (AnyF.slices_SortFunc_none Try.sortT A2 c2 _ w1).mono ?_
    rintro en w2 ⟨rfl, rfl⟩
    go_wp2_with fail
    go_ret
    have hr0 : r = [] := List.eq_nil_of_length_eq_zero (by rw [HPL.out, H0.out]; rfl)
    refine ⟨_, rfl, ?_⟩
    have := HS3.out
    rw [hr0]
    rw [H0.out] at this ⊢
    exact this
  · obtain ⟨g, c2, rfl⟩ : ∃ g c2, v = .slice (some ⟨g, 0, none⟩) hs.length c2 := by
      obtain ⟨_, h⟩ := S3.row_open
      rcases h with ⟨_, h0, _⟩ | ⟨g, cap, cur, rfl, _⟩
      · exact absurd h0 hz
      · exact ⟨_, _, rfl⟩
    have HS3 := Lib.hid S3
    clear S3 hz
    go_wp2_with fail
    refine (sortTm HP.out HR.out (by omega) HS3.out).mono ?_
    rintro en w2 ⟨rfl, S4⟩
    have HS4 := Lib.hid S4
    clear S4 HS3
    go_wp2_with fail
    go_ret
    exact ⟨_, rfl, HS4.out.cong (by rw [HPL.out]; rfl)⟩
/-- A heap that has what r has, in order. -/
structure TS (hs r : List Tm) : Prop where
  heap : Heap hs
  perm : hs.Perm r
  srt : Srt r
theorem TS.first {hs : List Tm} {x : Tm} {t : List Tm} (h : TS hs (x :: t)) : ga hs 0 = x := by
  have hl : 0 < hs.length := by rw [h.perm.length_eq]; simp
  have hm : ga hs 0 ∈ x :: t := h.perm.mem_iff.1 (by rw [show ga hs 0 = hs[0] from getD_at hl]; exact List.getElem_mem hl)
  rcases List.mem_cons.1 hm with e | e
  · exact e
  · have h1 := (List.pairwise_cons.1 h.srt).1 _ e
    obtain ⟨j, hj, hx⟩ := List.getElem_of_mem (h.perm.mem_iff.2 (List.mem_cons_self (a := x) (l := t)))
    have h2 := Heap.first h.heap j j (Nat.le_refl _) hj
    rw [show ga hs j = hs[j] from getD_at hj, hx, h1] at h2
    cases h2
theorem TS.next {hs hs' : List Tm} {x : Tm} {t : List Tm} (h : TS hs (x :: t)) (ho : TOk hs) (hh : Heap hs') (hp : hs'.Perm (lessT hs x.f0)) : TS hs' t where
  heap := hh
  perm := by
    have h1 : (lessT hs x.f0).Perm (lessT (x :: t) x.f0) := h.perm.filter _
    have hn : ((([] : List Tm) ++ x :: t).map (fun y : Tm => y.f0)).Nodup := (h.perm.map (fun y : Tm => y.f0)).nodup_iff.1 ho.ks
    have h2 := lessT_split (pre := []) (post := t) hn
    rw [List.nil_append, List.nil_append] at h2
    rw [h2] at h1
    exact hp.trans h1
  srt := (List.pairwise_cons.1 h.srt).2
theorem tstrInfo : (Try.prog.info? 9).map (fun i => (i.zero, i.size, i.bytes)) = some (some (.string ⟨#[]⟩), 1, 16) := by kernel_rfl
def dueOf (r : List Tm) (now : Int) : List Tm := r.takeWhile fun x => decide (x.f1 ≤ now)
def leftOf (r : List Tm) (now : Int) : List Tm := r.dropWhile fun x => decide (x.f1 ≤ now)
def DuePost (w0 : World) (o : Nat) (r : List Tm) (now : Int) (v : Value) (R : HP) (w' : World) : Prop :=
  ∃ hs', TS hs' (leftOf r now) ∧ Sat w0 w' (row 9 1 v (dueOf r now).length ((dueOf r now).map fun x => Value.string x.f0) * (tmr o hs' * R))
theorem due_split {r r1 r2 : List Tm} {now : Int} (h : r = r1 ++ r2) (h1 : ∀ x ∈ r1, x.f1 ≤ now) (h2 : ∀ x, r2.head? = some x → ¬ x.f1 ≤ now) : dueOf r now = r1 ∧ leftOf r now = r2 := by
  subst h
  unfold dueOf leftOf
  have a : ∀ x ∈ r1, decide (x.f1 ≤ now) = true := fun x hx => decide_eq_true (h1 x hx)
  rw [List.takeWhile_append_of_pos a, List.dropWhile_append_of_pos a]
  cases r2 with
  | nil => simp
  | cons y t =>
    have hy := h2 y rfl
    rw [List.takeWhile_cons_of_neg (by simpa using hy), List.dropWhile_cons_of_neg (by simpa using hy)]
    simp
def lenV : Value → Nat
  | .slice _ n _ => n
  | _ => 0
set_option maxHeartbeats 8000000 in
/-- 'Due'. -/
theorem tmDue {w0 w : World} {o : Nat} {hs r : List Tm} {now : Int} {R : HP} (ht : TS hs r) (S : Sat w0 w (tmr o hs * R)) :
    Calls Try.prog 16 #[pt o, .int .i64 now] w fun en w' => ∃ v, en = .returned v ∧ DuePost w0 o r now v R w' := by
  obtain ⟨_, _, hok, -⟩ := S.tm_open
  have hlen : r.length ≤ 1000000 := by rw [← ht.perm.length_eq]; exact hok.len
  have HLEN := Lib.hid hlen
  have HT := Lib.hid ht
  have HS := Lib.hid (S.row_nil 9 1)
  clear S ht hok hlen
  go_enter Try.func16, Try.ntmps16
  go_wp2_with fail
  go_loopw [5] (fun v5 wr => ∃ q : List Tm × List Tm × List Tm, Hid (r = q.1 ++ q.2.1) ∧ Hid (∀ x ∈ q.1, x.f1 ≤ now) ∧ Hid (TS q.2.2 q.2.1) ∧ Hid (Sat w0 wr (row 9 1 v5 q.1.length (q.1.map fun x => Value.string x.f0) * (tmr o q.2.2 * R)))) (fun v5 _ => r.length - (lenV v5))
  case atStart => exact ⟨([], r, hs), Lib.hid rfl, Lib.hid (by simp), HT, HS⟩
  case round =>
    clear HS HT
    obtain ⟨⟨r1, r2, hs'⟩, HE, HA, HT, HSi⟩ := hrel
    simp only at HE HA HT HSi
    obtain ⟨A5, c5, rfl⟩ : ∃ A5 c5, u5 = .slice A5 r1.length c5 := by
      obtain ⟨_, h⟩ := HSi.out.row_open
      rcases h with ⟨rfl, h0, _⟩ | ⟨g, cap, cur, rfl, _⟩
      · exact ⟨none, 0, by rw [h0]⟩
      · exact ⟨_, _, rfl⟩
    obtain ⟨A, cap, mb, hok, hA, S1⟩ := HSi.out.p2.tm_slice
    have hrl : r.length = r1.length + r2.length := by rw [HE.out]; simp
    have hle := HLEN.out
    cases r2 with
    | nil =>
      have hh0 : hs'.length = 0 := by rw [HT.out.perm.length_eq]; rfl
      have HH0 := Lib.hid hh0
      have HDS := Lib.hid (due_split HE.out HA.out (by simp))
      clear S1 hok hA hh0 hrl hle
      go_wp2_with fail
      refine (tmLen HSi.out.p2).mono ?_
      rintro en w1 ⟨rfl, rfl⟩
      rw [HH0.out]
      go_wp2_with fail
      go_ret
      exact ⟨_, rfl, hs', by rw [HDS.out.2]; exact HT.out, by rw [HDS.out.1]; exact HSi.out⟩
    | cons x t =>
      have hlp : hs'.length = t.length + 1 := by rw [HT.out.perm.length_eq]; rfl
      have h0lt : 0 < hs'.length := by omega
      obtain ⟨g, rfl⟩ := hA h0lt
      obtain ⟨c0, c1, -⟩ := blk2 S1.blk
      obtain ⟨g1, e1, x0, x1⟩ := S1.p2.row_two (i := 0) h0lt
      cases e1
      have hfx := HT.out.first
      have hx0 : hs'[0]'h0lt = x := by rw [← hfx]; exact (getD_at h0lt).symm
      rw [hx0] at x0 x1
      have HX := Lib.hid hx0
      have HOK := Lib.hid hok
      have HLP := Lib.hid hlp
      obtain ⟨N, hN⟩ : ∃ N, N = hs'.length := ⟨_, rfl⟩
      have hN0 : 0 < N := by omega
      rw [← hN] at c0
      have HNN := Lib.hid hN
      have hN1 : N ≤ 1000000 := by rw [hN]; exact hok.len
      by_cases hnow : x.f1 ≤ now
      · have d1 : decide (x.f1 ≤ now) = true := decide_eq_true hnow
        have S2 := HSi.out.alloc (.cells #[.string x.f0] 9)
        have b0 := S2.blk
        obtain ⟨v', w6, hr, S3⟩ := S2.p2.run_append 32 32 Try.underlying32 tstrInfo rfl (by decide) ⟨wr.heap.size, 0, none⟩ 1 1 [.string x.f0] rfl
          (fun j y hj => by rw [Addr.add_lit, Nat.zero_add]; exact cell_of b0 j (by simpa using hj)) (by simp [Value.oneCell']) (by unfold maxLen; omega) (by omega)
        have hxa : ∀ y ∈ r1 ++ [x], y.f1 ≤ now := fun y hy => by
          rcases List.mem_append.1 hy with hy | hy
          · exact HA.out y hy
          · rw [List.mem_singleton] at hy; subst hy; exact hnow
        have HA2 := Lib.hid hxa
        have HE2 : Hid (r = (r1 ++ [x]) ++ t) := Lib.hid (by rw [HE.out]; simp)
        have S4 := S3.p3.p3.drop1.cong (B := row 9 1 v' (r1.length + 1) ((r1.map fun x => Value.string x.f0) ++ [.string x.f0]) * (tmr o hs' * R)) (by ac_rfl)
        obtain ⟨g9, cap9, rfl⟩ := row_succ S4
        have HS4 := Lib.hid S4
        have S5 := S4.p2
        obtain ⟨A9, cap10, mb9, hok9, hA9, S6⟩ := S5.tm_slice
        obtain ⟨g8, rfl⟩ := hA9 h0lt
        obtain ⟨e0, e1, -⟩ := blk2 S6.blk
        rw [← hN] at e0
        obtain ⟨g7, e7, y0, y1⟩ := S6.p2.row_two (i := 0) h0lt
        cases e7
        rw [hx0] at y0 y1
        have HS5 := Lib.hid S5
        have HT9 := Lib.hid HT.out.heap
        clear S1 S2 S3 S4 S5 S6 hok hok9 hA hA9 hle hlp hfx hN hx0 hnow hxa b0
        go_wp2_with fail
        refine (tmLen HSi.out.p2).mono ?_
        rintro en w1 ⟨rfl, rfl⟩
        rw [← HNN.out]
        go_wp2_with (at_builtin; refine wpList_append_eq rfl _ _ _ _ rfl rfl rfl hr ?_)
        rw [← congrArg (fun z : Tm => z.f0) HX.out]
        refine (tmDrop_in h0lt HT9.out HS5.out).mono ?_
        rintro en w2 ⟨rfl, hs2, hh2, hp2, S7⟩
        rw [HX.out] at hp2
        have HT2 := Lib.hid (HT.out.next HOK.out hh2 hp2)
        have HS7 := Lib.hid S7.p2
        clear S7 hh2 hp2 HS5 HS4 HSi c0 c1 x0 x1 e0 e1 y0 y1 hr
        go_wp2_with fail
        go_roundw
        case rel => exact ⟨(r1 ++ [x], t, hs2), HE2, HA2, HT2, Lib.hid (HS7.out.cong (by simp))⟩
        case measure =>
          have hm := congrArg List.length HE.out
          rw [List.length_append, List.length_cons] at hm
          simp [lenV]; omega
      · have d1 : decide (x.f1 ≤ now) = false := decide_eq_false hnow
        have HDS := Lib.hid (due_split HE.out HA.out (fun y hy => by simp only [List.head?_cons, Option.some.injEq] at hy; subst hy; exact hnow))
        clear S1 hok hA hrl hle hlp hfx hN hx0 hnow
        go_wp2_with fail
        refine (tmLen HSi.out.p2).mono ?_
        rintro en w1 ⟨rfl, rfl⟩
        rw [← HNN.out]
        go_wp2_with fail
        go_ret
        exact ⟨_, rfl, hs', by rw [HDS.out.2]; exact HT.out, by rw [HDS.out.1]; exact HSi.out⟩
end Go.Sl
