/-
  'mewslaw38.WaitPlays': the plain law, and the walk.
-/
import Derived.Test.YthhapcgodofpkaaWaitQ
import Derived.Test.YthhapcgodofpkaaFar38
import Derived.Deep.RegionHeld3
import Derived.Deep.DeepCutAuto
import Derived.Deep.CutBlock
namespace Go.Sl
open Go.RowKit Go.Proofs Go.Proofs.YthhapcgodofpkaaW.PrintWords Go.Proofs.Ythhapcgodofpkaa.PWait
set_option linter.unusedVariables false
set_option linter.unusedSimpArgs false
set_option maxRecDepth 100000

/-! ### the plain law: what the document's list says, as the row says it -/
abbrev coP (ps : List Pl) : List WrCo := ps.map fun p => p.wr.co
abbrev coW (xs : List Wr) : List WrCo := xs.map Wr.co
theorem filter_co {xs : List Wr} {f : Wr → Bool} {g : WrCo → Bool} (h : ∀ x : Wr, f x = g x.co) : coW (xs.filter f) = (coW xs).filter g := by
  unfold coW
  rw [List.filter_map, show (g ∘ Wr.co) = f from funext fun x => (h x).symm]
theorem filter_coP {ps : List Pl} {f : Pl → Bool} {g : WrCo → Bool} (h : ∀ p : Pl, f p = g p.wr.co) : coP (ps.filter f) = (coP ps).filter g := by
  unfold coP
  rw [List.filter_map, show (g ∘ fun p : Pl => p.wr.co) = f from funext fun x => (h x).symm]
theorem has_co {xs : List Wr} {ps : List Pl} (h : coW xs = coP ps) (k : Int) : hasW xs k = hasH ps k := by
  have e1 : hasW xs k = (coW xs).any fun c => decide (c.1 = k) := by unfold hasW coW; rw [List.any_map]; rfl
  have e2 : hasH ps k = (coP ps).any fun c => decide (c.1 = k) := by unfold hasH coP; rw [List.any_map]; rfl
  rw [e1, e2, h]
theorem drop_co {xs : List Wr} {ps : List Pl} (h : coW xs = coP ps) (k : Int) : coW (dropW xs k) = coP (dropH ps k) := by
  unfold dropW dropH
  rw [filter_co (f := fun x => !decide (x.h = k)) (g := fun c => !decide (c.1 = k)) (fun _ => rfl), filter_coP (f := fun q => !decide (q.h = k)) (g := fun c => !decide (c.1 = k)) (fun _ => rfl), h]
theorem due_co {xs : List Wr} {ps : List Pl} (h : coW xs = coP ps) (now : Int) : coW (xs.filter (dueW now)) = coP (duP now ps) ∧ coW (xs.filter fun x => !dueW now x) = coP (lft now ps) := by
  unfold duP lft
  rw [filter_co (f := dueW now) (g := fun c => decide (0 < c.2.2.2.2.2.2) && decide (c.2.2.2.2.2.2 ≤ now)) (fun _ => rfl), filter_coP (f := dueP now) (g := fun c => decide (0 < c.2.2.2.2.2.2) && decide (c.2.2.2.2.2.2 ≤ now)) (fun _ => rfl),
    filter_co (f := fun x => !dueW now x) (g := fun c => !(decide (0 < c.2.2.2.2.2.2) && decide (c.2.2.2.2.2.2 ≤ now))) (fun _ => rfl), filter_coP (f := fun p => !dueP now p) (g := fun c => !(decide (0 < c.2.2.2.2.2.2) && decide (c.2.2.2.2.2.2 ≤ now))) (fun _ => rfl), h]
  exact ⟨rfl, rfl⟩
theorem first_co {xs : List Wr} {ps : List Pl} (h : coW xs = coP ps) (key : ByteArray) : (firstW xs key).map Wr.co = (firstK ps key).map fun p => p.wr.co := by
  have e1 : (firstW xs key).map Wr.co = (coW xs).find? fun c => hasS c.2.1 key := by unfold firstW coW; rw [List.find?_map]; rfl
  have e2 : ((firstK ps key).map fun p => p.wr.co) = (coP ps).find? fun c => hasS c.2.1 key := by unfold firstK coP; rw [List.find?_map]; rfl
  rw [e1, e2, h]
theorem hasH_filter {ps : List Pl} {p : Pl} (hn : (ps.map (·.h)).Nodup) (hp : p ∈ ps) : (ps.filter fun q => decide (q.h = p.h)) = [p] := by
  obtain ⟨a, c, rfl⟩ := List.append_of_mem hp
  rw [List.map_append, List.map_cons, List.nodup_append, List.nodup_cons] at hn
  obtain ⟨h1, h2, h3⟩ := hn
  have e1 : (a.filter fun q => decide (q.h = p.h)) = [] := List.filter_eq_nil_iff.2 fun q hq => by
    simp only [decide_eq_true_eq]
    exact fun e => h3 _ (List.mem_map.2 ⟨q, hq, rfl⟩) _ List.mem_cons_self e
  have e2 : (c.filter fun q => decide (q.h = p.h)) = [] := List.filter_eq_nil_iff.2 fun q hq => by
    simp only [decide_eq_true_eq]
    exact fun e => h2.1 (List.mem_map.2 ⟨q, hq, e⟩)
  rw [List.filter_append, List.filter_cons_of_pos (by simp), e1, e2]
  rfl
theorem gone_some {xs : List Wr} {ps : List Pl} (h : coW xs = coP ps) (hn : (ps.map (·.h)).Nodup) {p : Pl} (hp : p ∈ ps) : (goneW xs p.h).co = p.wr.co ∧ goneW xs p.h ∈ xs := by
  have e : coW (xs.filter fun x => decide (x.h = p.h)) = [p.wr.co] := by
    rw [filter_co (f := fun x => decide (x.h = p.h)) (g := fun c => decide (c.1 = p.h)) (fun _ => rfl), h, ← filter_coP (ps := ps) (f := fun q => decide (q.h = p.h)) (g := fun c => decide (c.1 = p.h)) (fun _ => rfl), hasH_filter hn hp]
    rfl
  unfold goneW
  cases hx : xs.filter (fun x => decide (x.h = p.h)) with
  | nil => rw [hx] at e; cases e
  | cons x t =>
    rw [hx] at e
    simp only [coW, List.map_cons, List.cons.injEq, List.map_eq_nil_iff] at e
    obtain ⟨e1, rfl⟩ := e
    refine ⟨e1, ?_⟩
    have : x ∈ xs.filter (fun x => decide (x.h = p.h)) := by rw [hx]; exact List.mem_cons_self
    exact (List.mem_filter.1 this).1
theorem gone_none {xs : List Wr} {k : Int} (h : hasW xs k = false) : goneW xs k = zW := by
  unfold goneW
  rw [List.filter_eq_nil_iff.2 (fun x hx => List.any_eq_false.1 h x hx)]
  rfl
theorem drop_lt {xs : List Wr} {k : Int} : decide ((dropW xs k).length < xs.length) = hasW xs k := by
  rw [Bool.eq_iff_iff, decide_eq_true_iff]
  unfold dropW hasW
  rw [List.length_filter_lt_length_iff_exists, List.any_eq_true]
  simp
/-- How the document's list stands beside the row, behind i calls. -/
structure StW (w : World) (ps : List Pl) (xs : List Wr) (i : Nat) : Prop where
  co : coW xs = coP ps
  keys : keysR w xs
  len : ps.length ≤ i
theorem StW.lenX {w : World} {ps : List Pl} {xs : List Wr} {i : Nat} (h : StW w ps xs i) : xs.length ≤ i := by
  have := congrArg List.length h.co
  simp only [coW, coP, List.length_map] at this
  have := h.len
  omega
theorem StW.sub {w : World} {ps ps2 : List Pl} {xs xs2 : List Wr} {i : Nat} (h : StW w ps xs i) (hc : coW xs2 = coP ps2) (h1 : xs2.Sublist xs) (h2 : ps2.length ≤ ps.length) : StW w ps2 xs2 (i + 1) :=
  ⟨hc, fun x hx => h.keys x (h1.subset hx), by have := h.len; omega⟩
theorem StW.up {w : World} {ps : List Pl} {xs : List Wr} {i : Nat} (h : StW w ps xs i) : StW w ps xs (i + 1) := h.sub h.co (List.Sublist.refl _) (Nat.le_refl _)
/-- What K says of memory lets the keys of these be read. -/
def KR (w : World) (K : HP) (us : List Wr) : Prop := ∀ w' Y, Sat w w' (K * Y) → keysR w' us
theorem kr_nil (w : World) (K : HP) : KR w K [] := fun _ _ _ x hx => by cases hx
theorem kr_row {w : World} {p : Pl} (h : p.ks.length ≤ 1000000) : KR w p.row [p.wr] := fun w' Y S x hx => by
  rw [List.mem_singleton] at hx
  subst hx
  exact ⟨h, Sat.row_at rfl S⟩
theorem kr_zero (w : World) (K : HP) : KR w K [zW] := fun w' Y S x hx => by
  rw [List.mem_singleton] at hx
  subst hx
  exact ⟨by decide, readsNone _ _⟩
theorem keysR_zero (w : World) : keysR w [zW] := fun x hx => by
  rw [List.mem_singleton] at hx
  subst hx
  exact ⟨by decide, readsNone _ _⟩
theorem kr_star {w : World} : ∀ {ps : List Pl}, (∀ p ∈ ps, p.ks.length ≤ 1000000) → KR w (star (ps.map Pl.row)) (ps.map Pl.wr)
  | [], _ => kr_nil _ _
  | p :: ps, h => fun w' Y S x hx => by
    rw [List.map_cons, star_cons, sep_assoc] at S
    rcases List.mem_cons.1 hx with rfl | hx
    · exact ⟨h p List.mem_cons_self, Sat.row_at rfl S⟩
    · exact kr_star (fun q hq => h q (List.mem_cons_of_mem _ hq)) w' _ S.p2 x hx
theorem keysR_old {w : World} {xs : List Wr} (h : keysR w xs) {w' : World} (hb : Below w.heap.size w w') : keysR w' xs := keysR_below h hb
abbrev SOp := S32
/-- One call, as it lies. -/
abbrev opC (y : SOp) (A : Option Addr) (c : Nat) : Obj := .cells #[.int .i64 y.f0, .int .i64 y.f1.f0, .slice A y.f1.f1.length c, .bool y.f1.f2, .bool y.f1.f3, .string y.f1.f4, .bool y.f1.f5, .int .i64 y.f1.f6] 32 (0, 0)
abbrev wOf (y : SOp) (A : Option Addr) (c : Nat) : Wr := ⟨y.f1.f0, y.f1.f1, A, c, y.f1.f2, y.f1.f3, y.f1.f4, y.f1.f5, y.f1.f6⟩
/-- The state behind a call, ahead of the questions. -/
def midW (w : World) (r ob i : Nat) (y : SOp) (A : Option Addr) (c : Nat) (s6 s9 s10 s11 s12 : Value) (wx : World) : Prop :=
  ∃ (ps : List Pl) (n : Int) (xs us bs : List Wr) (pq : Bool) (K : HP) (A6 A9 A10 : Option Addr) (c6 c9 c10 : Nat), s6 = .slice A6 xs.length c6 ∧ s9 = .slice A9 us.length c9 ∧ s10 = .slice A10 bs.length c10 ∧ s11 = .bool pq ∧ s12 = .bool pq ∧
    Hid (StW w ps xs (i + 1)) ∧ Hid (n ≤ (i : Int) + 1) ∧ Hid (coW us = coW bs) ∧ Hid (KR w K us) ∧ Hid (keysR w bs) ∧ Hid (us.length ≤ 1000000) ∧
    Hid (Sat w wx (pts ob (opC y A c) * (wt r ps n * (rW s6 xs * (rW s9 us * (rW s10 bs * (K * old w)))))))
/-- An array of one. -/
theorem row_one {w0 w : World} {b : Nat} {x : Wr} {R : HP} (S : Sat w0 w (pts b (.cells x.ce.toArray 30 (0, 0)) * R)) : Sat w0 w (rW (.slice (some ⟨b, 0, none⟩) 1 1) [x] * R) :=
  Sat.row_shut (n := 1) (cap := 1) (by simp [Wr.ce]) (Nat.le_refl _) (by unfold maxLen; omega) (by simp [Wr.ce]) (by simp [Wr.ce]) S
theorem first_keys {w : World} {xs : List Wr} {key : ByteArray} (h : keysR w xs) : keysR w [(firstW xs key).getD zW] := fun x hx => by
  rw [List.mem_singleton] at hx
  subst hx
  cases hf : firstW xs key with
  | none => exact keysR_zero w _ (by simp)
  | some y => exact h y (List.mem_of_find?_eq_some hf)
/-- 'First', whoever waits. -/
theorem wtFirstU {w w' : World} {r : Nat} {ps : List Pl} {n : Int} {xs : List Wr} {key : ByteArray} {R : HP} (hco : coW xs = coP ps) (hk : ∀ p ∈ ps, p.ks.length ≤ 1000000) (S : Sat w w' (wt r ps n * R)) :
    Calls Try.prog 13 #[pt r, .string key] w' fun en w'' => ∃ (v : Wr) (KV : HP), v.co = ((firstW xs key).getD zW).co ∧ KR w KV [v] ∧ en = .returned (.tuple #[v.v, .bool (firstW xs key).isSome]) ∧ Sat w w'' (KV * (wt r ps n * R)) := by
  have hf := first_co hco key
  cases hp : firstK ps key with
  | none =>
    rw [hp] at hf
    have h1 : firstW xs key = none := by
      cases h : firstW xs key with
      | none => rfl
      | some x => rw [h] at hf; cases hf
    refine (wtFirst_none hp S).mono ?_
    rintro en w'' ⟨rfl, S1⟩
    rw [h1]
    exact ⟨zW, emp, rfl, kr_zero _ _, rfl, by rw [emp_mul]; exact S1⟩
  | some p =>
    rw [hp] at hf
    obtain ⟨x, h1, h2⟩ : ∃ x, firstW xs key = some x ∧ x.co = p.wr.co := by
      cases h : firstW xs key with
      | none => rw [h] at hf; cases hf
      | some x => rw [h] at hf; simp only [Option.map_some, Option.some.injEq] at hf; exact ⟨x, rfl, hf⟩
    refine (wtFirst_all hp S).mono ?_
    rintro en w'' ⟨q, ⟨g, c, rfl⟩, rfl, S1⟩
    rw [h1]
    exact ⟨Pl.wr { p with g := g, cap := c }, _, h2.symm, kr_row (hk p (firstK_some hp).1), rfl, S1⟩
theorem qs_keys {ps qs : List Pl} (h : qs.map (fun q => q.wr.co) = ps.map (fun q => q.wr.co)) (hk : ∀ p ∈ ps, p.ks.length ≤ 1000000) : ∀ q ∈ qs, q.ks.length ≤ 1000000 := fun q hq => by
  have : q.wr.co ∈ ps.map (fun q => q.wr.co) := by rw [← h]; exact List.mem_map.2 ⟨q, hq, rfl⟩
  obtain ⟨p, hp, e⟩ := List.mem_map.1 this
  have e2 : p.ks = q.ks := congrArg (fun c : WrCo => c.2.1) e
  rw [← e2]; exact hk p hp
theorem qs_co {w : World} {ps qs : List Pl} {xs : List Wr} {i : Nat} (hs : StW w ps xs i) (h : qs.map (fun q => q.wr.co) = ps.map (fun q => q.wr.co)) : coW (qs.map Pl.wr) = coW xs := by
  rw [hs.co]; unfold coW coP; rw [List.map_map]; exact h
theorem qs_len {w : World} {ps qs : List Pl} {xs : List Wr} {i : Nat} (hs : StW w ps xs i) (h : qs.map (fun q => q.wr.co) = ps.map (fun q => q.wr.co)) (hi : i ≤ 1000000) : (qs.map Pl.wr).length ≤ 1000000 := by
  have := congrArg List.length h
  simp only [List.length_map] at this
  have := hs.len
  rw [List.length_map]; omega
theorem cellsW {w0 w' : World} {vb xb ob : Nat} {v z : Wr} {y : SOp} {A : Option Addr} {c : Nat} {R : HP} (S : Sat w0 w' (pts xb z.o * (pts vb v.o * (pts ob (opC y A c) * R)))) :
    w'.cell? ⟨vb, 0, none⟩ = some (.int .i64 v.h) ∧ w'.cell? ⟨vb, 1, none⟩ = some (.slice v.A v.ks.length v.cap) ∧ w'.cell? ⟨vb, 2, none⟩ = some (.bool v.f2) ∧ w'.cell? ⟨vb, 3, none⟩ = some (.bool v.f3) ∧ w'.cell? ⟨vb, 4, none⟩ = some (.string v.f4) ∧ w'.cell? ⟨vb, 5, none⟩ = some (.bool v.f5) ∧ w'.cell? ⟨vb, 6, none⟩ = some (.int .i64 v.f6) ∧
    w'.cell? ⟨xb, 0, none⟩ = some (.int .i64 z.h) ∧ w'.cell? ⟨xb, 1, none⟩ = some (.slice z.A z.ks.length z.cap) ∧ w'.cell? ⟨xb, 2, none⟩ = some (.bool z.f2) ∧ w'.cell? ⟨xb, 3, none⟩ = some (.bool z.f3) ∧ w'.cell? ⟨xb, 4, none⟩ = some (.string z.f4) ∧ w'.cell? ⟨xb, 5, none⟩ = some (.bool z.f5) ∧ w'.cell? ⟨xb, 6, none⟩ = some (.int .i64 z.f6) ∧
    w'.cell? ⟨ob, 1, none⟩ = some (.int .i64 y.f1.f0) := by
  obtain ⟨a0, a1, a2, a3, a4, a5, a6, -⟩ := blk7 S.p2.blk
  obtain ⟨b0, b1, b2, b3, b4, b5, b6, -⟩ := blk7 S.blk
  obtain ⟨-, c1, -⟩ := blk8 S.p3.blk
  exact ⟨a0, a1, a2, a3, a4, a5, a6, b0, b1, b2, b3, b4, b5, b6, c1⟩
set_option maxHeartbeats 32000000 in
theorem playsWait {w : World} {A0 : Option Addr} {c0 : Nat} {l : List SOp} (hr0 : Kd.C k32 w A0 l.length l) (hc0 : l.length ≤ c0) (hok : ∀ x ∈ l, x.f1.f1.length ≤ 9223372036854775807) (key : ByteArray) :
    Calls Try.prog 3 #[.slice A0 l.length c0, .string key] w fun en w' => en = .returned (.bool true) ∧ Below w.heap.size w w' := by
  have hmax : l.length ≤ 9223372036854775807 := hr0.2.1
  have HR := Lib.hid hr0
  have HC := Lib.hid hc0
  obtain ⟨k, far, hfar, hbig⟩ := far38_f hmax hok
  have HF := Lib.hid hfar
  have HBG := Lib.hid hbig
  clear hr0 hc0 hok hfar hbig
  go_enter Try.func3, Try.ntmps3
  go_wp2_with fail
  refine (mewslaw38_far.calls k A0 c0 l far w HR.out HC.out HF.out).mono ?_
  rintro en w1 ⟨rfl, hb⟩
  have HS1 := Lib.hid ((Sat.start w).below hb)
  clear hb HF
  cases far with
  | true =>
    go_wp2_with fail
    refine (aliveWait HS1.out).mono ?_
    rintro en w5 ⟨rfl, S5⟩
    have HS5 := Lib.hid S5.old1
    clear S5
    go_wp2_with fail
    go_ret
    exact ⟨rfl, HS5.out⟩
  | false =>
    obtain ⟨hl200, hks⟩ := HBG.out rfl
    have HKS := Lib.hid hks
    clear hks HBG
    by_cases hsz : (key.size : Int) > 300
    · go_wp2_with fail
      refine (aliveWait HS1.out).mono ?_
      rintro en w5 ⟨rfl, S5⟩
      have HS5 := Lib.hid S5.old1
      clear S5
      go_wp2_with fail
      go_ret
      exact ⟨rfl, HS5.out⟩
    · go_wp2_with fail
      refine (wtNew HS1.out).mono ?_
      rintro en w2 ⟨r, rfl, S2⟩
      have HS2 : Hid (Sat w w2 (wt r [] 0 * (rW (.slice none 0 0) [] * old w))) := Lib.hid ((S2.row_nil 30 7).p2)
      clear S2 HS1 hsz
      go_wp2_with fail
      go_loopw [6, 33] (fun v6 v33 wr => ∃ (i : Nat) (ps : List Pl) (n : Int) (xs : List Wr) (A6 : Option Addr) (c6 : Nat), v33 = .int .i64 i ∧ v6 = .slice A6 xs.length c6 ∧ i ≤ l.length ∧ Hid (StW w ps xs i) ∧ Hid (n ≤ (i : Int)) ∧ Hid (Sat w wr (wt r ps n * (rW (.slice A6 xs.length c6) xs * old w)))) (fun _ v33 _ => l.length - (RowKit.intOf v33).toNat)
      case atStart => exact ⟨0, [], 0, [], none, 0, rfl, rfl, by omega, Lib.hid ⟨rfl, (fun x hx => by cases hx), Nat.le_refl _⟩, Lib.hid (by omega), HS2⟩
      case round =>
        clear HS2
        obtain ⟨i, ps, n, xs, A6, c6, rfl, rfl, hi, HST, HN, HSi⟩ := hrel
        by_cases hlt : i < l.length
        · have hwi := wrap_up hlt (show l.length ≤ 9223372036854775807 by omega)
          obtain ⟨ad, A2, c2, e1, x0, x1, x2, x3, x4, x5, x6, x7, hl2, hCk⟩ := at_T32 HR.out (i : Int) (by omega) (by omega)
          cases e1
          have hbel := HSi.out.drop1.drop1.old1
          replace x0 := (hbel.cell (World.block_lt_of_cell? w _ x0)).trans x0
          replace x1 := (hbel.cell (World.block_lt_of_cell? w _ x1)).trans x1
          replace x2 := (hbel.cell (World.block_lt_of_cell? w _ x2)).trans x2
          replace x3 := (hbel.cell (World.block_lt_of_cell? w _ x3)).trans x3
          replace x4 := (hbel.cell (World.block_lt_of_cell? w _ x4)).trans x4
          replace x5 := (hbel.cell (World.block_lt_of_cell? w _ x5)).trans x5
          replace x6 := (hbel.cell (World.block_lt_of_cell? w _ x6)).trans x6
          replace x7 := (hbel.cell (World.block_lt_of_cell? w _ x7)).trans x7
          clear hbel
          have hmem : rd_T32 l (i : Int) ∈ l := by
            have : rd_T32 l (i : Int) = l[i] := by unfold rd_T32; simp [List.getD_eq_getElem?_getD, hlt]
            rw [this]; exact List.getElem_mem hlt
          have hk3 := HKS.out _ hmem
          clear hmem
          rw [Int.toNat_natCast] at x0 x1 x2 x3 x4 x5 x6 x7
          generalize rd_T32 l (i : Int) = y at *
          have HK3 := Lib.hid hk3
          have HCK := Lib.hid hCk
          obtain ⟨ob, hob⟩ : ∃ ob, ob = wr.heap.size := ⟨_, rfl⟩
          have SA := HSi.out.alloc (opC y A2 c2)
          rw [← hob] at SA
          have HSA := Lib.hid SA
          have HOB := Lib.hid hob
          have HI200 : Hid (i < 200) := Lib.hid (by omega)
          clear SA hob HSi hk3 hCk
          go_upto_region 8 with (fail)
          rw [← HOB.out]
          clear x0 x1 x2 x3 x4 x5 x6 x7 hl2
          refine gen_w HSA.out ?_
          clear HSA HOB
          intro wq SB
          obtain ⟨b0, b1, b2, b3, b4, b5, b6, b7, -⟩ := blk8 SB.blk
          have HSB : Hid (Sat w wq (wt r ps n * (rW (.slice A6 xs.length c6) xs * (pts ob (opC y A2 c2) * old w)))) := Lib.hid (SB.cong (by ac_rfl))
          clear SB
          go_upto_block 2 with (fail)
          go_cut [6, 9, 10, 11, 12] (fun s6 s9 s10 s11 s12 wx => midW w r ob i y A2 c2 s6 s9 s10 s11 s12 wx)
          case first =>
            by_cases k0 : y.f0 = 0
            · have k0d : (y.f0 == 0) = true := by simpa using k0
              have k0e : decide (y.f0 = 0) = true := by simpa using k0
              clear k0
              by_cases hz : y.f1.f1 = []
              · have hzl : y.f1.f1.length = 0 := by rw [hz]; rfl
                have HZ := Lib.hid hz
                have HXZ : Hid (StW w ps xs (i + 1)) := Lib.hid HST.out.up
                clear hz
                rw [hzl] at b2
                go_wp2_with fail
                refine (wtAdd_none HSB.out).mono ?_
                rintro en w3 ⟨rfl, S3⟩
                clear b0 b1 b2 b3 b4 b5 b6 b7
                have S4 : Sat w w3 (rW (.slice A6 xs.length c6) xs * (wt r ps n * (pts ob (opC y A2 c2) * old w))) := S3.p2
                obtain ⟨b0, b1, b2, b3, b4, b5, b6, b7, -⟩ := blk8 S4.p3.blk
                rw [hzl] at b2
                have HS4 := Lib.hid S4
                have hcall := rAddW_no (x := wOf y A2 c2) (by have := HST.out.lenX; have := HI200.out; omega) (Or.inl HZ.out) HS4.out
                unfold Wr.v at hcall
                simp only [hzl] at hcall
                clear S3 S4 HSB
                go_wp2_with fail
                refine hcall.mono ?_
                clear hcall
                rintro en w4 ⟨rfl, S4⟩
                have HS5 : Hid (Sat w w4 (pts ob (opC y A2 c2) * (wt r ps n * (rW (.slice A6 xs.length c6) xs * (rW (.slice none 0 0) [] * (rW (.slice none 0 0) [] * (emp * (old w)))))))) := Lib.hid (((S4.row_nil 30 7).row_nil 30 7).cong (by simp only [rW, List.length_nil, List.flatMap_nil, emp_mul]; ac_rfl))
                clear S4 HS4
                go_wp2_with fail
                go_meet
                exact ⟨ps, n, xs, [], [], false, emp, A6, none, none, c6, 0, 0, rfl, rfl, rfl, rfl, rfl, HXZ, Lib.hid (by have := HN.out; omega), Lib.hid rfl, Lib.hid (kr_nil _ _), Lib.hid (fun x hx => by cases hx), Lib.hid (by simp), HS5⟩
              · have hz0 : 0 < y.f1.f1.length := List.length_pos_iff.2 hz
                obtain ⟨ad2, rfl, _⟩ := HCK.out.2.2 hz0
                have HZ := Lib.hid hz
                clear hz
                cases hh : hasH ps y.f1.f0 with
                | true =>
                  have HH := Lib.hid hh
                  have HHX : Hid (hasW xs y.f1.f0 = true) := Lib.hid (by rw [has_co HST.out.co]; exact hh)
                  have HXZ : Hid (StW w ps xs (i + 1)) := Lib.hid HST.out.up
                  clear hh
                  go_wp2_with fail
                  refine (wtAdd_old hz0 HH.out HSB.out).mono ?_
                  rintro en w3 ⟨rfl, S3⟩
                  clear b0 b1 b2 b3 b4 b5 b6 b7
                  have S4 : Sat w w3 (rW (.slice A6 xs.length c6) xs * (wt r ps n * (pts ob (opC y (some ad2) c2) * old w))) := S3.p2
                  obtain ⟨b0, b1, b2, b3, b4, b5, b6, b7, -⟩ := blk8 S4.p3.blk
                  have HS4 := Lib.hid S4
                  clear S3 S4 HSB
                  go_wp2_with fail
                  refine (rAddW_no (x := wOf y (some ad2) c2) (by have := HST.out.lenX; have := HI200.out; omega) (Or.inr HHX.out) HS4.out).mono ?_
                  rintro en w4 ⟨rfl, S4⟩
                  have HS5 : Hid (Sat w w4 (pts ob (opC y (some ad2) c2) * (wt r ps n * (rW (.slice A6 xs.length c6) xs * (rW (.slice none 0 0) [] * (rW (.slice none 0 0) [] * (emp * (old w)))))))) := Lib.hid (((S4.row_nil 30 7).row_nil 30 7).cong (by simp only [rW, List.length_nil, List.flatMap_nil, emp_mul]; ac_rfl))
                  clear S4 HS4
                  go_wp2_with fail
                  go_meet
                  exact ⟨ps, n, xs, [], [], false, emp, A6, none, none, c6, 0, 0, rfl, rfl, rfl, rfl, rfl, HXZ, Lib.hid (by have := HN.out; omega), Lib.hid rfl, Lib.hid (kr_nil _ _), Lib.hid (fun x hx => by cases hx), Lib.hid (by simp), HS5⟩
                | false =>
                  have HH := Lib.hid hh
                  have HHX : Hid (hasW xs y.f1.f0 = false) := Lib.hid (by rw [has_co HST.out.co]; exact hh)
                  clear hh
                  go_wp2_with fail
                  refine (wtAdd_new (K := old w) hz0 HK3.out (reads_old HCK.out) (by have := HN.out; have := HI200.out; omega) HH.out (HSB.out.cong (by ac_rfl : _ = wt r ps n * (old w * (rW (.slice A6 xs.length c6) xs * pts ob (opC y (some ad2) c2)))))).mono ?_
                  rintro en w3 ⟨rfl, g, cap, S3⟩
                  clear b0 b1 b2 b3 b4 b5 b6 b7
                  obtain ⟨p, hp⟩ : ∃ p : Pl, p = ⟨n + 1, y.f1.f0, y.f1.f1, g, cap, y.f1.f2, y.f1.f3, y.f1.f4, y.f1.f5, y.f1.f6⟩ := ⟨_, rfl⟩
                  rw [← hp] at S3
                  have S4 : Sat w w3 (rW (.slice A6 xs.length c6) xs * (wt r (ps ++ [p]) (n + 1) * (pts ob (opC y (some ad2) c2) * old w))) := S3.cong (by ac_rfl)
                  obtain ⟨b0, b1, b2, b3, b4, b5, b6, b7, -⟩ := blk8 S4.p3.blk
                  have HS4 := Lib.hid S4
                  have HXZ : Hid (StW w (ps ++ [p]) (xs ++ [wOf y (some ad2) c2]) (i + 1)) := Lib.hid ⟨by
                    unfold coW coP
                    rw [List.map_append, List.map_append, show xs.map Wr.co = ps.map (fun p => p.wr.co) from HST.out.co, hp]
                    rfl, (fun x hx => by
                      rcases List.mem_append.1 hx with hx | hx
                      · exact HST.out.keys x hx
                      · rw [List.mem_singleton] at hx
                        subst hx
                        exact ⟨Nat.le_trans HK3.out (by decide), HCK.out⟩), by have := HST.out.len; simp; omega⟩
                  clear S3 S4 HSB hp
                  go_wp2_with fail
                  refine (rAddW_yes (x := wOf y (some ad2) c2) (by have := HST.out.lenX; have := HI200.out; omega) HZ.out HHX.out HS4.out).mono ?_
                  rintro en w4 ⟨v', rfl, S4⟩
                  obtain ⟨A7, c7, rfl, -, -⟩ := Sat.row_C flatWr rfl S4
                  have HS5 : Hid (Sat w w4 (pts ob (opC y (some ad2) c2) * (wt r (ps ++ [p]) (n + 1) * (rW (.slice A7 (xs ++ [wOf y (some ad2) c2]).length c7) (xs ++ [wOf y (some ad2) c2]) * (rW (.slice none 0 0) [] * (rW (.slice none 0 0) [] * (emp * (old w)))))))) := Lib.hid (((S4.row_nil 30 7).row_nil 30 7).cong (by simp only [rW, List.length_nil, List.flatMap_nil, emp_mul]; ac_rfl))
                  generalize xs ++ [wOf y (some ad2) c2] = xs7 at *
                  clear S4 HS4
                  go_wp2_with fail
                  go_meet
                  exact ⟨ps ++ [p], n + 1, xs7, [], [], true, emp, A7, none, none, c7, 0, 0, rfl, rfl, rfl, rfl, rfl, HXZ, Lib.hid (by have := HN.out; omega), Lib.hid rfl, Lib.hid (kr_nil _ _), Lib.hid (fun x hx => by cases hx), Lib.hid (by simp), HS5⟩
            have k0d : (y.f0 == 0) = false := by simpa using k0
            have k0e : decide (y.f0 = 0) = false := by simpa using k0
            by_cases k1 : y.f0 = 1
            · have k1d : (y.f0 == 1) = true := by simpa using k1
              have k1e : decide (y.f0 = 1) = true := by simpa using k1
              clear k0 k1
              cases hh : hasH ps y.f1.f0 with
              | true =>
                obtain ⟨p, hp, hph⟩ := hasH_some hh
                have HP := Lib.hid hp
                have HGO := gone_some HST.out.co (by obtain ⟨_, _, hok, _⟩ := HSB.out.wt_open; exact hok.hs) hp
                rw [hph] at HGO
                have HGO := Lib.hid HGO
                have HPK : Hid (p.ks.length ≤ 1000000) := Lib.hid (by
                  obtain ⟨_, _, hok, _⟩ := HSB.out.wt_open
                  have := (hok.pos p hp).2.2.2
                  omega)
                have hcall := wtDrop_some HP.out HSB.out
                rw [hph] at hcall
                unfold Pl.wv at hcall
                rw [hph] at hcall
                have HHX : Hid (hasW xs y.f1.f0 = true) := Lib.hid (by rw [has_co HST.out.co]; exact hh)
                clear hh hp
                obtain ⟨u, hu⟩ : ∃ u, u = p.wr := ⟨_, rfl⟩
                have hca : (Value.agg #[.int .i64 y.f1.f0, p.e, .bool p.f2, .bool p.f3, .string p.f4, .bool p.f5, .int .i64 p.f6]) = u.v := by rw [hu, ← hph]; rfl
                rw [hca] at hcall
                have HKU : Hid (KR w p.row [u]) := Lib.hid (by rw [hu]; exact kr_row HPK.out)
                have HCU : Hid (u.co = (goneW xs y.f1.f0).co) := Lib.hid (by rw [hu, HGO.out.1])
                have HKB : Hid (keysR w [goneW xs y.f1.f0]) := Lib.hid (fun x hx => by
                  rw [List.mem_singleton] at hx
                  subst hx
                  exact HST.out.keys _ HGO.out.2)
                generalize p.row = K at *
                clear HP HGO HPK hca hu hph
                go_wp2_with fail
                refine hcall.mono ?_
                clear hcall
                rintro en w3 ⟨rfl, S3⟩
                have S3 := S3
                obtain ⟨vb, hvb⟩ : ∃ vb, vb = w3.heap.size := ⟨_, rfl⟩
                have S4 := (S3.alloc u.o)
                rw [← hvb] at S4
                have S5 : Sat w _ (rW (.slice A6 xs.length c6) xs * (pts vb u.o * (wt r (dropH ps y.f1.f0) n * (K * (pts ob (opC y A2 c2) * (old w)))))) := S4.cong (by ac_rfl)
                clear b0 b1 b2 b3 b4 b5 b6 b7
                obtain ⟨b0, b1, b2, b3, b4, b5, b6, b7, -⟩ := blk8 S3.p4.blk
                have hoblt := S3.p4.lt
                have HS5 := Lib.hid S5
                have HVB := Lib.hid hvb
                clear S3 S4 S5 HSB hvb
                go_wp2_with fail
                rw [← HVB.out]
                refine (rDropW (by have := HST.out.lenX; have := HI200.out; omega) HS5.out).mono ?_
                rintro en w4 ⟨v1, rfl, S6⟩
                rw [drop_lt, HHX.out]
                obtain ⟨A7, c7, rfl, -, -⟩ := Sat.row_C flatWr rfl S6
                have HXZ : Hid (StW w (dropH ps y.f1.f0) (dropW xs y.f1.f0) (i + 1)) := Lib.hid (HST.out.sub (drop_co HST.out.co _) List.filter_sublist (List.length_filter_le _ _))
                generalize hzg : goneW xs y.f1.f0 = z at *
                generalize dropW xs y.f1.f0 = xs7 at *
                generalize dropH ps y.f1.f0 = ps7 at *
                clear hzg b0 b1 b2 b3 b4 b5 b6 b7 hoblt HS5
                obtain ⟨zb, hzb⟩ : ∃ zb, zb = w4.heap.size := ⟨_, rfl⟩
                have S7 := S6.alloc z.o
                rw [← hzb] at S7
                obtain ⟨d0, d1, d2, d3, d4, d5, d6, df⟩ := blk7 S6.p2.blk
                have hvlt := S6.p2.lt
                obtain ⟨e0, e1, e2, e3, e4, e5, e6, ef⟩ := blk7 S7.blk
                have HS7 := Lib.hid S7
                have HZB := Lib.hid hzb
                simp only [Wr.ce]
                clear S6 S7 hzb
                go_wp2_with fail
                rw [← HZB.out]
                have hg : w4.alloc z.o = w4.alloc (.cells #[.int .i64 z.h, .slice z.A z.ks.length z.cap, .bool z.f2, .bool z.f3, .string z.f4, .bool z.f5, .int .i64 z.f6] 30) := rfl
                rw [← hg]
                generalize w4.alloc z.o = w5 at *
                clear hg HZB hvlt d0 d1 d2 d3 d4 d5 d6 df
                obtain ⟨d0, d1, d2, d3, d4, d5, d6, df⟩ := blk7 HS7.out.p3.blk
                have hvlt := HS7.out.p3.lt
                have hzlt := HS7.out.lt
                have hone : ∀ (x1 x2 : Wr), Sat w ((w5.alloc x1.o).alloc x2.o).drew (rW (.slice (some ⟨w5.heap.size + 1, 0, none⟩) 1 1) [x2] * (rW (.slice (some ⟨w5.heap.size, 0, none⟩) 1 1) [x1] * (pts ob (opC y A2 c2) * (wt r ps7 n * (rW (.slice A7 xs7.length c7) xs7 * (K * (old w))))))) := fun x1 x2 => by
                  have T := (((HS7.out.drop1.p2.drop1).alloc x1.o).alloc x2.o).drew
                  simp only [World.size_alloc] at T
                  have T2 := row_one (x := x1) (row_one (x := x2) T).p2
                  exact T2.cong (by ac_rfl)
                have HO := Lib.hid hone
                clear hone HS7
                go_wp2_with fail
                go_region
                · have HS8 : Hid (Sat w _ (pts ob (opC y A2 c2) * (wt r ps7 n * (rW (.slice A7 xs7.length c7) xs7 * (rW (.slice (some ⟨w5.heap.size, 0, none⟩) 1 1) [u] * (rW (.slice (some ⟨w5.heap.size + 1, 0, none⟩) 1 1) [z] * (K * (old w)))))))) := Lib.hid ((HO.out u z).cong (by ac_rfl))
                  clear HO
                  go_wp2_with fail
                  go_meet
                  exact ⟨ps7, n, xs7, [u], [z], true, K, A7, some ⟨w5.heap.size, 0, none⟩, some ⟨w5.heap.size + 1, 0, none⟩, c7, 1, 1, rfl, rfl, rfl, rfl, rfl, HXZ, Lib.hid (by have := HN.out; omega), Lib.hid (by simp only [coW, List.map_cons, List.map_nil, HCU.out]), HKU, HKB, Lib.hid (by simp), HS8⟩
                · have HS8 : Hid (Sat w _ (pts ob (opC y A2 c2) * (wt r ps7 n * (rW (.slice A7 xs7.length c7) xs7 * (rW (.slice (some ⟨w5.heap.size + 1, 0, none⟩) 1 1) [u] * (rW (.slice (some ⟨w5.heap.size, 0, none⟩) 1 1) [z] * (K * (old w)))))))) := Lib.hid ((HO.out z u).cong (by ac_rfl))
                  clear HO
                  go_wp2_with fail
                  go_meet
                  exact ⟨ps7, n, xs7, [u], [z], true, K, A7, some ⟨w5.heap.size + 1, 0, none⟩, some ⟨w5.heap.size, 0, none⟩, c7, 1, 1, rfl, rfl, rfl, rfl, rfl, HXZ, Lib.hid (by have := HN.out; omega), Lib.hid (by simp only [coW, List.map_cons, List.map_nil, HCU.out]), HKU, HKB, Lib.hid (by simp), HS8⟩
              | false =>
                have hcall := wtDrop_none hh HSB.out
                have HHX : Hid (hasW xs y.f1.f0 = false) := Lib.hid (by rw [has_co HST.out.co]; exact hh)
                have HDP : Hid (dropH ps y.f1.f0 = ps) := Lib.hid (List.filter_eq_self.2 fun q hq => by simpa using List.any_eq_false.1 hh q hq)
                clear hh
                obtain ⟨u, hu⟩ : ∃ u, u = zW := ⟨_, rfl⟩
                have hca : (Value.agg #[.int .i64 0, .slice none 0 0, .bool false, .bool false, .string ⟨#[]⟩, .bool false, .int .i64 0]) = u.v := by rw [hu]; rfl
                rw [hca] at hcall
                obtain ⟨K, hK⟩ : ∃ K : HP, K = emp := ⟨_, rfl⟩
                have HKU : Hid (KR w K [u]) := Lib.hid (by rw [hu]; exact kr_zero _ _)
                have HCU : Hid (u.co = (goneW xs y.f1.f0).co) := Lib.hid (by rw [hu, gone_none HHX.out])
                have HKB : Hid (keysR w [goneW xs y.f1.f0]) := Lib.hid (by rw [gone_none HHX.out]; exact keysR_zero w)
                have HKE := Lib.hid hK
                clear hca hu hK
                go_wp2_with fail
                refine hcall.mono ?_
                clear hcall
                rintro en w3 ⟨rfl, S3⟩
                have S3 := (S3.cong (by rw [HKE.out, HDP.out, emp_mul]) : Sat w w3 (wt r (dropH ps y.f1.f0) n * (K * (rW (.slice A6 xs.length c6) xs * (pts ob (opC y A2 c2) * old w)))))
                obtain ⟨vb, hvb⟩ : ∃ vb, vb = w3.heap.size := ⟨_, rfl⟩
                have S4 := (S3.alloc u.o)
                rw [← hvb] at S4
                have S5 : Sat w _ (rW (.slice A6 xs.length c6) xs * (pts vb u.o * (wt r (dropH ps y.f1.f0) n * (K * (pts ob (opC y A2 c2) * (old w)))))) := S4.cong (by ac_rfl)
                clear b0 b1 b2 b3 b4 b5 b6 b7
                obtain ⟨b0, b1, b2, b3, b4, b5, b6, b7, -⟩ := blk8 S3.p4.blk
                have hoblt := S3.p4.lt
                have HS5 := Lib.hid S5
                have HVB := Lib.hid hvb
                clear S3 S4 S5 HSB hvb
                go_wp2_with fail
                rw [← HVB.out]
                refine (rDropW (by have := HST.out.lenX; have := HI200.out; omega) HS5.out).mono ?_
                rintro en w4 ⟨v1, rfl, S6⟩
                rw [drop_lt, HHX.out]
                obtain ⟨A7, c7, rfl, -, -⟩ := Sat.row_C flatWr rfl S6
                have HXZ : Hid (StW w (dropH ps y.f1.f0) (dropW xs y.f1.f0) (i + 1)) := Lib.hid (HST.out.sub (drop_co HST.out.co _) List.filter_sublist (List.length_filter_le _ _))
                generalize hzg : goneW xs y.f1.f0 = z at *
                generalize dropW xs y.f1.f0 = xs7 at *
                generalize dropH ps y.f1.f0 = ps7 at *
                clear hzg b0 b1 b2 b3 b4 b5 b6 b7 hoblt HS5
                obtain ⟨zb, hzb⟩ : ∃ zb, zb = w4.heap.size := ⟨_, rfl⟩
                have S7 := S6.alloc z.o
                rw [← hzb] at S7
                obtain ⟨d0, d1, d2, d3, d4, d5, d6, df⟩ := blk7 S6.p2.blk
                have hvlt := S6.p2.lt
                obtain ⟨e0, e1, e2, e3, e4, e5, e6, ef⟩ := blk7 S7.blk
                have HS7 := Lib.hid S7
                have HZB := Lib.hid hzb
                simp only [Wr.ce]
                clear S6 S7 hzb
                go_wp2_with fail
                rw [← HZB.out]
                have hg : w4.alloc z.o = w4.alloc (.cells #[.int .i64 z.h, .slice z.A z.ks.length z.cap, .bool z.f2, .bool z.f3, .string z.f4, .bool z.f5, .int .i64 z.f6] 30) := rfl
                rw [← hg]
                generalize w4.alloc z.o = w5 at *
                clear hg HZB hvlt d0 d1 d2 d3 d4 d5 d6 df
                obtain ⟨d0, d1, d2, d3, d4, d5, d6, df⟩ := blk7 HS7.out.p3.blk
                have hvlt := HS7.out.p3.lt
                have hzlt := HS7.out.lt
                have hone : ∀ (x1 x2 : Wr), Sat w ((w5.alloc x1.o).alloc x2.o).drew (rW (.slice (some ⟨w5.heap.size + 1, 0, none⟩) 1 1) [x2] * (rW (.slice (some ⟨w5.heap.size, 0, none⟩) 1 1) [x1] * (pts ob (opC y A2 c2) * (wt r ps7 n * (rW (.slice A7 xs7.length c7) xs7 * (K * (old w))))))) := fun x1 x2 => by
                  have T := (((HS7.out.drop1.p2.drop1).alloc x1.o).alloc x2.o).drew
                  simp only [World.size_alloc] at T
                  have T2 := row_one (x := x1) (row_one (x := x2) T).p2
                  exact T2.cong (by ac_rfl)
                have HO := Lib.hid hone
                clear hone HS7
                go_wp2_with fail
                go_region
                · have HS8 : Hid (Sat w _ (pts ob (opC y A2 c2) * (wt r ps7 n * (rW (.slice A7 xs7.length c7) xs7 * (rW (.slice (some ⟨w5.heap.size, 0, none⟩) 1 1) [u] * (rW (.slice (some ⟨w5.heap.size + 1, 0, none⟩) 1 1) [z] * (K * (old w)))))))) := Lib.hid ((HO.out u z).cong (by ac_rfl))
                  clear HO
                  go_wp2_with fail
                  go_meet
                  exact ⟨ps7, n, xs7, [u], [z], false, K, A7, some ⟨w5.heap.size, 0, none⟩, some ⟨w5.heap.size + 1, 0, none⟩, c7, 1, 1, rfl, rfl, rfl, rfl, rfl, HXZ, Lib.hid (by have := HN.out; omega), Lib.hid (by simp only [coW, List.map_cons, List.map_nil, HCU.out]), HKU, HKB, Lib.hid (by simp), HS8⟩
                · have HS8 : Hid (Sat w _ (pts ob (opC y A2 c2) * (wt r ps7 n * (rW (.slice A7 xs7.length c7) xs7 * (rW (.slice (some ⟨w5.heap.size + 1, 0, none⟩) 1 1) [u] * (rW (.slice (some ⟨w5.heap.size, 0, none⟩) 1 1) [z] * (K * (old w)))))))) := Lib.hid ((HO.out z u).cong (by ac_rfl))
                  clear HO
                  go_wp2_with fail
                  go_meet
                  exact ⟨ps7, n, xs7, [u], [z], false, K, A7, some ⟨w5.heap.size + 1, 0, none⟩, some ⟨w5.heap.size, 0, none⟩, c7, 1, 1, rfl, rfl, rfl, rfl, rfl, HXZ, Lib.hid (by have := HN.out; omega), Lib.hid (by simp only [coW, List.map_cons, List.map_nil, HCU.out]), HKU, HKB, Lib.hid (by simp), HS8⟩
            · have k1d : (y.f0 == 1) = false := by simpa using k1
              have k1e : decide (y.f0 = 1) = false := by simpa using k1
              clear k0 k1
              have hcall := wtDue (now := y.f1.f6) HSB.out
              have hks : ∀ p ∈ duP y.f1.f6 ps, p.ks.length ≤ 1000000 := by
                obtain ⟨_, _, hok, _⟩ := HSB.out.wt_open
                intro p hp
                have := (hok.pos p (List.mem_filter.1 hp).1).2.2.2
                omega
              have HKU : Hid (KR w (star ((duP y.f1.f6 ps).map Pl.row)) ((duP y.f1.f6 ps).map Pl.wr)) := Lib.hid (kr_star hks)
              have hdl : (duP y.f1.f6 ps).length ≤ ps.length := List.length_filter_le _ _
              have HUL : Hid (((duP y.f1.f6 ps).map Pl.wr).length ≤ 1000000) := Lib.hid (by have := HST.out.len; have := HI200.out; rw [List.length_map]; omega)
              have HXZ : Hid (StW w (lft y.f1.f6 ps) (xs.filter fun x => !dueW y.f1.f6 x) (i + 1)) := Lib.hid (HST.out.sub (due_co HST.out.co _).2 List.filter_sublist (List.length_filter_le _ _))
              have HCO : Hid (coW ((duP y.f1.f6 ps).map Pl.wr) = coW (xs.filter (dueW y.f1.f6))) := Lib.hid (by rw [(due_co HST.out.co _).1]; unfold coW coP; rw [List.map_map]; rfl)
              have HKB : Hid (keysR w (xs.filter (dueW y.f1.f6))) := Lib.hid (fun x hx => HST.out.keys x (List.mem_filter.1 hx).1)
              clear hks hdl
              generalize (duP y.f1.f6 ps).map Pl.wr = us at *
              generalize star ((duP y.f1.f6 ps).map Pl.row) = KS at *
              generalize lft y.f1.f6 ps = ps7 at *
              go_wp2_with fail
              refine hcall.mono ?_
              clear hcall
              rintro en w3 ⟨v9, rfl, S3⟩
              obtain ⟨A9, c9, rfl, -, -⟩ := Sat.row_C flatWr rfl S3
              clear b0 b1 b2 b3 b4 b5 b6 b7
              have S4 : Sat w w3 (rW (.slice A6 xs.length c6) xs * (rW (.slice A9 us.length c9) us * (KS * (wt r ps7 n * (pts ob (opC y A2 c2) * (old w)))))) := S3.cong (by ac_rfl)
              obtain ⟨b0, b1, b2, b3, b4, b5, b6, b7, -⟩ := blk8 S4.p5.blk
              have HS4 := Lib.hid S4
              clear S3 S4 HSB
              go_wp2_with fail
              refine (rDue (by have := HST.out.lenX; have := HI200.out; omega) HS4.out).mono ?_
              rintro en w4 ⟨v1, v2, rfl, S4⟩
              generalize (xs.filter fun x => !dueW y.f1.f6 x) = xs7 at *
              generalize (xs.filter (dueW y.f1.f6)) = bs at *
              obtain ⟨A7, c7, rfl, -, -⟩ := Sat.row_C flatWr rfl S4
              obtain ⟨A8, c8, rfl, -, -⟩ := Sat.row_C flatWr rfl S4.p2
              have HS5 : Hid (Sat w w4 (pts ob (opC y A2 c2) * (wt r ps7 n * (rW (.slice A7 xs7.length c7) xs7 * (rW (.slice A9 us.length c9) us * (rW (.slice A8 bs.length c8) bs * (KS * (old w)))))))) := Lib.hid (S4.cong (by ac_rfl))
              clear S4 HS4
              go_wp2_with fail
              go_meet
              exact ⟨ps7, n, xs7, us, bs, true, KS, A7, A9, A8, c7, c9, c8, rfl, rfl, rfl, rfl, rfl, HXZ, Lib.hid (by have := HN.out; omega), HCO, HKU, HKB, HUL, HS5⟩
          case rest =>
            obtain ⟨ps2, n2, xs2, us, bs, pq, KU, B6, B9, B10, d6, d9, d10, rfl, rfl, rfl, rfl, rfl, HST2, HN2, HCO, HKU, HKB, HUL, HM⟩ := hcut
            clear HSB b0 b1 b2 b3 b4 b5 b6 b7 HST HN HK3 HCK
            have HBL : Hid (bs.length = us.length) := Lib.hid (by have := congrArg List.length HCO.out; simpa [coW] using this.symm)
            have HPK : Hid (∀ p ∈ ps2, p.ks.length ≤ 1000000) := Lib.hid (by
              obtain ⟨_, _, hok, _⟩ := (HM.out.p2).wt_open
              intro p hp
              have := (hok.pos p hp).2.2.2
              omega)
            have HPX : Hid (ps2.length = xs2.length) := Lib.hid (by have := congrArg List.length HST2.out.co; simpa [coW, coP] using this.symm)
            have SM : Sat w _ (wt r ps2 n2 * (rW (.slice B6 xs2.length d6) xs2 * (pts ob (opC y A2 c2) * (rW (.slice B9 us.length d9) us * (rW (.slice B10 bs.length d10) bs * (KU * (old w))))))) := HM.out.cong (by ac_rfl)
            obtain ⟨b0, b1, b2, b3, b4, b5, b6, b7, -⟩ := blk8 SM.p3.blk
            have hcall := wtFirstU (key := key) HST2.out.co HPK.out SM
            have HZK : Hid (keysR w [(firstW xs2 key).getD zW]) := Lib.hid (first_keys HST2.out.keys)
            generalize hzz : (firstW xs2 key).getD zW = z at *
            generalize hoo : (firstW xs2 key).isSome = ok at *
            have HZZ := Lib.hid hzz
            have HOO := Lib.hid hoo
            clear hzz hoo HM SM
            go_wp2_with fail
            refine hcall.mono ?_
            clear hcall b0 b1 b2 b3 b4 b5 b6 b7
            rintro en w3 ⟨v, KV, hcv, hkv, rfl, S3⟩
            have HCV : Hid (coW [v] = coW [z]) := Lib.hid (by simp only [coW, List.map_cons, List.map_nil, hcv])
            have HKV := Lib.hid hkv
            have HKZ := HZK
            obtain ⟨vb, hvb⟩ : ∃ vb, vb = w3.heap.size := ⟨_, rfl⟩
            have S4 := S3.alloc v.o
            rw [← hvb] at S4
            have S5 : Sat w (w3.alloc v.o) (rW (.slice B6 xs2.length d6) xs2 * (pts vb v.o * (pts ob (opC y A2 c2) * (wt r ps2 n2 * (rW (.slice B9 us.length d9) us * (rW (.slice B10 bs.length d10) bs * (KV * (KU * (old w))))))))) := S4.cong (by ac_rfl)
            have HS5 := Lib.hid S5
            have HVB := Lib.hid hvb
            clear S3 S4 S5 hvb hcv hkv
            have hcall2 := rFirstW (key := key) (by have := HST2.out.lenX; have := HI200.out; omega) (keysR_old HST2.out.keys (HS5.out.cong (by ac_rfl : _ = old w * (rW (.slice B6 xs2.length d6) xs2 * (pts vb v.o * (pts ob (opC y A2 c2) * (wt r ps2 n2 * (rW (.slice B9 us.length d9) us * (rW (.slice B10 bs.length d10) bs * (KV * (KU)))))))))).old) HS5.out
            rw [HZZ.out, HOO.out] at hcall2
            unfold Wr.ce at hcall2
            go_wp2_with fail
            refine hcall2.mono ?_
            clear hcall2
            rintro en w4 ⟨rfl, S6⟩
            obtain ⟨xb, hxb⟩ : ∃ xb, xb = w4.heap.size := ⟨_, rfl⟩
            have S7 := S6.alloc z.o
            rw [← hxb] at S7
            have HP : Hid (Sat w (w4.alloc z.o) (pts xb z.o * (pts vb v.o * (pts ob (opC y A2 c2) * (wt r ps2 n2 * (rW (.slice B6 xs2.length d6) xs2 * (rW (.slice B9 us.length d9) us * (rW (.slice B10 bs.length d10) bs * (KV * (KU * (old w))))))))))) := Lib.hid (S7.cong (by ac_rfl))
            have HXB := Lib.hid hxb
            clear S6 S7 HS5 hxb
            go_upto_region 23 with (fail)
            rw [← HVB.out, ← HXB.out]
            have hg : w4.alloc z.o = w4.alloc (.cells #[.int .i64 z.h, .slice z.A z.ks.length z.cap, .bool z.f2, .bool z.f3, .string z.f4, .bool z.f5, .int .i64 z.f6] 30) := rfl
            rw [← hg]
            generalize w4.alloc z.o = w5 at *
            clear hg HXB HVB
            -- BEGIN A
            refine wp_region_noPanic ?_
            refine wp_region_held_drew (S := (fun w' => w'.cell? ⟨vb, 0, none⟩ = some (.int .i64 v.h) ∧ w'.cell? ⟨vb, 1, none⟩ = some (.slice v.A v.ks.length v.cap) ∧ w'.cell? ⟨vb, 2, none⟩ = some (.bool v.f2) ∧ w'.cell? ⟨vb, 3, none⟩ = some (.bool v.f3) ∧ w'.cell? ⟨vb, 4, none⟩ = some (.string v.f4) ∧ w'.cell? ⟨vb, 5, none⟩ = some (.bool v.f5) ∧ w'.cell? ⟨vb, 6, none⟩ = some (.int .i64 v.f6) ∧ w'.cell? ⟨xb, 0, none⟩ = some (.int .i64 z.h) ∧ w'.cell? ⟨xb, 1, none⟩ = some (.slice z.A z.ks.length z.cap) ∧ w'.cell? ⟨xb, 2, none⟩ = some (.bool z.f2) ∧ w'.cell? ⟨xb, 3, none⟩ = some (.bool z.f3) ∧ w'.cell? ⟨xb, 4, none⟩ = some (.string z.f4) ∧ w'.cell? ⟨xb, 5, none⟩ = some (.bool z.f5) ∧ w'.cell? ⟨xb, 6, none⟩ = some (.int .i64 z.f6) ∧ w'.cell? ⟨ob, 1, none⟩ = some (.int .i64 y.f1.f0))) (by kernel_rfl) ?_ (fun hHeld => ?_)
            · exact cellsW HP.out.drew
            refine wpAnyH_take (i := 0) (v := ?_) (by simp only [List.getElem?_toArray, List.getElem?_cons_succ, List.getElem?_cons_zero]; rfl) (by kernel_rfl) (by kernel_rfl) (by kernel_rfl) (fun _ _ _ h => h) (Or.inl ⟨by rfl, ?_⟩) hHeld ?_
            rotate_left
            · (intro w hSw; (try dsimp only at hSw); go_simp; try with_reducible rfl)
            try simp only [Act.put, List.setIfInBounds_toArray, List.set_cons_zero, List.set_cons_succ]
            refine wpAnyH_take (i := 1) (v := ?_) (by simp only [List.getElem?_toArray, List.getElem?_cons_succ, List.getElem?_cons_zero]; rfl) (by kernel_rfl) (by kernel_rfl) (by kernel_rfl) (fun _ _ _ h => h) (Or.inl ⟨by rfl, ?_⟩) hHeld ?_
            rotate_left
            · (intro w hSw; (try dsimp only at hSw); go_simp; try with_reducible rfl)
            try simp only [Act.put, List.setIfInBounds_toArray, List.set_cons_zero, List.set_cons_succ]
            refine wpAnyH_take (i := 2) (v := (.bool false)) (by simp only [List.getElem?_toArray, List.getElem?_cons_succ, List.getElem?_cons_zero]; rfl) (by kernel_rfl) (by kernel_rfl) (by kernel_rfl) (fun _ _ _ h => h) (Or.inl ⟨by rfl, ?_⟩) hHeld ?_
            · (intro w hSw; (try dsimp only at hSw); go_simp; try with_reducible rfl)
            try simp only [Act.put, List.setIfInBounds_toArray, List.set_cons_zero, List.set_cons_succ]
            refine wpAnyH_take (i := 3) (v := ?_) (by simp only [List.getElem?_toArray, List.getElem?_cons_succ, List.getElem?_cons_zero]; rfl) (by kernel_rfl) (by kernel_rfl) (by kernel_rfl) (fun _ _ _ h => h) (Or.inl ⟨by rfl, ?_⟩) hHeld ?_
            rotate_left
            · (intro w hSw; (try dsimp only at hSw); go_simp; try with_reducible rfl)
            try simp only [Act.put, List.setIfInBounds_toArray, List.set_cons_zero, List.set_cons_succ]
            refine wpAnyH_take (i := 4) (v := ?_) (by simp only [List.getElem?_toArray, List.getElem?_cons_succ, List.getElem?_cons_zero]; rfl) (by kernel_rfl) (by kernel_rfl) (by kernel_rfl) (fun _ _ _ h => h) (Or.inl ⟨by rfl, ?_⟩) hHeld ?_
            rotate_left
            · (intro w hSw; (try dsimp only at hSw); go_simp; try with_reducible rfl)
            try simp only [Act.put, List.setIfInBounds_toArray, List.set_cons_zero, List.set_cons_succ]
            refine wpAnyH_take (i := 5) (v := ?_) (by simp only [List.getElem?_toArray, List.getElem?_cons_succ, List.getElem?_cons_zero]; rfl) (by kernel_rfl) (by kernel_rfl) (by kernel_rfl) (fun _ _ _ h => h) (Or.inl ⟨by rfl, ?_⟩) hHeld ?_
            rotate_left
            · (intro w hSw; (try dsimp only at hSw); go_simp; try with_reducible rfl)
            try simp only [Act.put, List.setIfInBounds_toArray, List.set_cons_zero, List.set_cons_succ]
            refine wpAnyH_ready (rs := [6]) (by kernel_rfl) (by simp) ?_
            refine AllReadyH.cons rfl (fun K hK => ?_) AllReadyH.nil
            go_simp
            (refine (rSameW HUL.out HCO.out (HKU.out _ _ (HP.out.drew.cong (by ac_rfl : _ = KU * (pts xb z.o * (pts vb v.o * (pts ob (opC y A2 c2) * (wt r ps2 n2 * (rW (.slice B6 xs2.length d6) xs2 * (rW (.slice B9 us.length d9) us * (rW (.slice B10 bs.length d10) bs * (KV * (old w)))))))))))) (keysR_old HKB.out (HP.out.drew.cong (by ac_rfl : _ = old w * (pts xb z.o * (pts vb v.o * (pts ob (opC y A2 c2) * (wt r ps2 n2 * (rW (.slice B6 xs2.length d6) xs2 * (rW (.slice B9 us.length d9) us * (rW (.slice B10 bs.length d10) bs * (KV * (KU))))))))))).old) (HP.out.drew.cong (by ac_rfl : _ = rW (.slice B9 us.length d9) us * (rW (.slice B10 bs.length d10) bs * (pts xb z.o * (pts vb v.o * (pts ob (opC y A2 c2) * (wt r ps2 n2 * (rW (.slice B6 xs2.length d6) xs2 * (KV * (KU * (old w)))))))))))).mono ?_; rintro en wa ⟨rfl, SS⟩; have HA : Hid (Sat w wa (pts xb z.o * (pts vb v.o * (pts ob (opC y A2 c2) * (wt r ps2 n2 * (rW (.slice B6 xs2.length d6) xs2 * (rW (.slice B9 us.length d9) us * (rW (.slice B10 bs.length d10) bs * (KV * (KU * (old w))))))))))) := Lib.hid (SS.cong (by ac_rfl)); clear SS; go_simp)
            refine hK.out _ _ ?_ (fun hHeld => ?_)
            · exact cellsW HA.out
            clear hK K
            try simp only [Act.put, List.setIfInBounds_toArray, List.set_cons_zero, List.set_cons_succ]
            refine wpAnyH_take (i := 7) (v := (.bool false)) (by simp only [List.getElem?_toArray, List.getElem?_cons_succ, List.getElem?_cons_zero]; rfl) (by kernel_rfl) (by kernel_rfl) (by kernel_rfl) (fun _ _ _ h => h) (Or.inl ⟨by rfl, ?_⟩) hHeld ?_
            · (intro w hSw; (try dsimp only at hSw); go_simp; try with_reducible rfl)
            try simp only [Act.put, List.setIfInBounds_toArray, List.set_cons_zero, List.set_cons_succ]
            refine wpAnyH_take (i := 8) (v := (.bool false)) (by simp only [List.getElem?_toArray, List.getElem?_cons_succ, List.getElem?_cons_zero]; rfl) (by kernel_rfl) (by kernel_rfl) (by kernel_rfl) (fun _ _ _ h => h) (Or.inl ⟨by rfl, ?_⟩) hHeld ?_
            · (intro w hSw; (try dsimp only at hSw); go_simp; try with_reducible rfl)
            try simp only [Act.put, List.setIfInBounds_toArray, List.set_cons_zero, List.set_cons_succ]
            refine wpAnyH_take (i := 9) (v := ?_) (by simp only [List.getElem?_toArray, List.getElem?_cons_succ, List.getElem?_cons_zero]; rfl) (by kernel_rfl) (by kernel_rfl) (by kernel_rfl) (fun _ _ _ h => h) (Or.inl ⟨by rfl, ?_⟩) hHeld ?_
            rotate_left
            · (intro w hSw; (try dsimp only at hSw); go_simp; try with_reducible rfl)
            try simp only [Act.put, List.setIfInBounds_toArray, List.set_cons_zero, List.set_cons_succ]
            refine wpAnyH_take (i := 10) (v := ?_) (by simp only [List.getElem?_toArray, List.getElem?_cons_succ, List.getElem?_cons_zero]; rfl) (by kernel_rfl) (by kernel_rfl) (by kernel_rfl) (fun _ _ _ h => h) (Or.inl ⟨by rfl, ?_⟩) hHeld ?_
            rotate_left
            · (intro w hSw; (try dsimp only at hSw); go_simp; try with_reducible rfl)
            try simp only [Act.put, List.setIfInBounds_toArray, List.set_cons_zero, List.set_cons_succ]
            refine wpAnyH_take (i := 11) (v := ?_) (by simp only [List.getElem?_toArray, List.getElem?_cons_succ, List.getElem?_cons_zero]; rfl) (by kernel_rfl) (by kernel_rfl) (by kernel_rfl) (fun _ _ _ h => h) (Or.inl ⟨by rfl, ?_⟩) hHeld ?_
            rotate_left
            · (intro w hSw; (try dsimp only at hSw); go_simp; try with_reducible rfl)
            try simp only [Act.put, List.setIfInBounds_toArray, List.set_cons_zero, List.set_cons_succ]
            refine wpAnyH_take (i := 12) (v := (.bool false)) (by simp only [List.getElem?_toArray, List.getElem?_cons_succ, List.getElem?_cons_zero]; rfl) (by kernel_rfl) (by kernel_rfl) (by kernel_rfl) (fun _ _ _ h => h) (Or.inl ⟨by rfl, ?_⟩) hHeld ?_
            · (intro w hSw; (try dsimp only at hSw); go_simp; try with_reducible rfl)
            try simp only [Act.put, List.setIfInBounds_toArray, List.set_cons_zero, List.set_cons_succ]
            refine wpAnyH_take (i := 13) (v := (.bool false)) (by simp only [List.getElem?_toArray, List.getElem?_cons_succ, List.getElem?_cons_zero]; rfl) (by kernel_rfl) (by kernel_rfl) (by kernel_rfl) (fun _ _ _ h => h) (Or.inl ⟨by rfl, ?_⟩) hHeld ?_
            · (intro w hSw; (try dsimp only at hSw); go_simp; try with_reducible rfl)
            try simp only [Act.put, List.setIfInBounds_toArray, List.set_cons_zero, List.set_cons_succ]
            refine wpAnyH_take (i := 14) (v := ?_) (by simp only [List.getElem?_toArray, List.getElem?_cons_succ, List.getElem?_cons_zero]; rfl) (by kernel_rfl) (by kernel_rfl) (by kernel_rfl) (fun _ _ _ h => h) (Or.inl ⟨by rfl, ?_⟩) hHeld ?_
            rotate_left
            · (intro w hSw; (try dsimp only at hSw); go_simp; try with_reducible rfl)
            try simp only [Act.put, List.setIfInBounds_toArray, List.set_cons_zero, List.set_cons_succ]
            refine wpAnyH_take (i := 15) (v := ?_) (by simp only [List.getElem?_toArray, List.getElem?_cons_succ, List.getElem?_cons_zero]; rfl) (by kernel_rfl) (by kernel_rfl) (by kernel_rfl) (fun _ _ _ h => h) (Or.inl ⟨by rfl, ?_⟩) hHeld ?_
            rotate_left
            · (intro w hSw; (try dsimp only at hSw); go_simp; try with_reducible rfl)
            try simp only [Act.put, List.setIfInBounds_toArray, List.set_cons_zero, List.set_cons_succ]
            refine wpAnyH_take (i := 17) (v := ?_) (by simp only [List.getElem?_toArray, List.getElem?_cons_succ, List.getElem?_cons_zero]; rfl) (by kernel_rfl) (by kernel_rfl) (by kernel_rfl) (fun _ _ _ h => h) (Or.inl ⟨by rfl, ?_⟩) hHeld ?_
            rotate_left
            · (intro w hSw; (try dsimp only at hSw); go_simp; try with_reducible rfl)
            try simp only [Act.put, List.setIfInBounds_toArray, List.set_cons_zero, List.set_cons_succ]
            refine wpAnyH_ready (rs := [16, 18]) (by kernel_rfl) (by simp) ?_
            refine AllReadyH.cons rfl (fun K hK => ?_) ?_
            · go_simp
              (have HB := Lib.hid (HA.out.alloc v.o))
              refine hK.out _ _ ?_ (fun hHeld => ?_)
              · exact cellsW HB.out.drop1
              clear hK K
              try simp only [Act.put, List.setIfInBounds_toArray, List.set_cons_zero, List.set_cons_succ]
              refine wpAnyH_ready (rs := [18]) (by kernel_rfl) (by simp) ?_
              refine AllReadyH.cons rfl (fun K hK => ?_) AllReadyH.nil
              go_simp
              (have HB2 := Lib.hid (HB.out.alloc z.o))
              refine hK.out _ _ ?_ (fun hHeld => ?_)
              · exact cellsW HB2.out.drop1.drop1
              clear hK K
              try simp only [Act.put, List.setIfInBounds_toArray, List.set_cons_zero, List.set_cons_succ]
              refine wpAnyH_ready (rs := [19]) (by kernel_rfl) (by simp) ?_
              refine AllReadyH.cons rfl (fun K hK => ?_) AllReadyH.nil
              go_simp
              (have T := (HB2.out : Sat w _ _); simp only [World.size_alloc] at T; have T2 := row_one (x := v) (row_one (x := z) T).p2; have HT : Hid (Sat w _ (rW (.slice (some ⟨wa.heap.size, 0, none⟩) 1 1) [v] * (rW (.slice (some ⟨wa.heap.size + 1, 0, none⟩) 1 1) [z] * (pts xb z.o * (pts vb v.o * (pts ob (opC y A2 c2) * (wt r ps2 n2 * (rW (.slice B6 xs2.length d6) xs2 * (rW (.slice B9 us.length d9) us * (rW (.slice B10 bs.length d10) bs * (KV * (KU * (old w))))))))))))) := Lib.hid (T2.cong (by ac_rfl)); refine (rSameW (xs := [v]) (ys := [z]) (by simp) HCV.out (HKV.out _ _ (HT.out.cong (by ac_rfl : _ = KV * (rW (.slice (some ⟨wa.heap.size, 0, none⟩) 1 1) [v] * (rW (.slice (some ⟨wa.heap.size + 1, 0, none⟩) 1 1) [z] * (pts xb z.o * (pts vb v.o * (pts ob (opC y A2 c2) * (wt r ps2 n2 * (rW (.slice B6 xs2.length d6) xs2 * (rW (.slice B9 us.length d9) us * (rW (.slice B10 bs.length d10) bs * (KU * (old w)))))))))))))) (keysR_old HKZ.out (HT.out.cong (by ac_rfl : _ = old w * (rW (.slice (some ⟨wa.heap.size, 0, none⟩) 1 1) [v] * (rW (.slice (some ⟨wa.heap.size + 1, 0, none⟩) 1 1) [z] * (pts xb z.o * (pts vb v.o * (pts ob (opC y A2 c2) * (wt r ps2 n2 * (rW (.slice B6 xs2.length d6) xs2 * (rW (.slice B9 us.length d9) us * (rW (.slice B10 bs.length d10) bs * (KV * (KU))))))))))))).old) HT.out).mono ?_; rintro en wc ⟨rfl, SS⟩; have HC3 : Hid (Sat w wc (pts xb z.o * (pts vb v.o * (pts ob (opC y A2 c2) * (wt r ps2 n2 * (rW (.slice B6 xs2.length d6) xs2 * (rW (.slice B9 us.length d9) us * (rW (.slice B10 bs.length d10) bs * (KV * (KU * (old w))))))))))) := Lib.hid SS.drop1.drop1; clear SS T T2 HT; go_simp)
              refine hK.out _ _ ?_ (fun hHeld => ?_)
              · exact cellsW HC3.out
              clear hK K
              try simp only [Act.put, List.setIfInBounds_toArray, List.set_cons_zero, List.set_cons_succ]
              refine wpAnyH_take (i := 20) (v := (.bool false)) (by simp only [List.getElem?_toArray, List.getElem?_cons_succ, List.getElem?_cons_zero]; rfl) (by kernel_rfl) (by kernel_rfl) (by kernel_rfl) (fun _ _ _ h => h) (Or.inl ⟨by rfl, ?_⟩) hHeld ?_
              · (intro w hSw; (try dsimp only at hSw); go_simp; try with_reducible rfl)
              try simp only [Act.put, List.setIfInBounds_toArray, List.set_cons_zero, List.set_cons_succ]
              refine wpAnyH_take (i := 21) (v := (.bool false)) (by simp only [List.getElem?_toArray, List.getElem?_cons_succ, List.getElem?_cons_zero]; rfl) (by kernel_rfl) (by kernel_rfl) (by kernel_rfl) (fun _ _ _ h => h) (Or.inl ⟨by rfl, ?_⟩) hHeld ?_
              · (intro w hSw; (try dsimp only at hSw); go_simp; try with_reducible rfl)
              try simp only [Act.put, List.setIfInBounds_toArray, List.set_cons_zero, List.set_cons_succ]
              refine wpAnyH_take (i := 22) (v := ?_) (by simp only [List.getElem?_toArray, List.getElem?_cons_succ, List.getElem?_cons_zero]; rfl) (by kernel_rfl) (by kernel_rfl) (by kernel_rfl) (fun _ _ _ h => h) (Or.inl ⟨by rfl, ?_⟩) hHeld ?_
              rotate_left
              · (intro w hSw; (try dsimp only at hSw); go_simp; try with_reducible rfl)
              try simp only [Act.put, List.setIfInBounds_toArray, List.set_cons_zero, List.set_cons_succ]
              refine wpAnyH_take (i := 23) (v := ?_) (by simp only [List.getElem?_toArray, List.getElem?_cons_succ, List.getElem?_cons_zero]; rfl) (by kernel_rfl) (by kernel_rfl) (by kernel_rfl) (fun _ _ _ h => h) (Or.inl ⟨by rfl, ?_⟩) hHeld ?_
              rotate_left
              · (intro w hSw; (try dsimp only at hSw); go_simp; try with_reducible rfl)
              try simp only [Act.put, List.setIfInBounds_toArray, List.set_cons_zero, List.set_cons_succ]
              refine wpAnyH_take (i := 25) (v := ?_) (by simp only [List.getElem?_toArray, List.getElem?_cons_succ, List.getElem?_cons_zero]; rfl) (by kernel_rfl) (by kernel_rfl) (by kernel_rfl) (fun _ _ _ h => h) (Or.inl ⟨by rfl, ?_⟩) hHeld ?_
              rotate_left
              · (intro w hSw; (try dsimp only at hSw); go_simp; try with_reducible rfl)
              try simp only [Act.put, List.setIfInBounds_toArray, List.set_cons_zero, List.set_cons_succ]
              refine wpAnyH_ready (rs := [24]) (by kernel_rfl) (by simp) ?_
              refine AllReadyH.cons rfl (fun K hK => ?_) AllReadyH.nil
              go_simp
              (refine (wtAll (HC3.out.cong (by ac_rfl : _ = wt r ps2 n2 * (pts xb z.o * (pts vb v.o * (pts ob (opC y A2 c2) * (rW (.slice B6 xs2.length d6) xs2 * (rW (.slice B9 us.length d9) us * (rW (.slice B10 bs.length d10) bs * (KV * (KU * (old w)))))))))))).mono ?_; rintro en wd ⟨va, qs, hqs, rfl, SS⟩; have HQ := Lib.hid hqs; have HD : Hid (Sat w wd (rW va (qs.map Pl.wr) * (star (qs.map Pl.row) * (pts xb z.o * (pts vb v.o * (pts ob (opC y A2 c2) * (wt r ps2 n2 * (rW (.slice B6 xs2.length d6) xs2 * (rW (.slice B9 us.length d9) us * (rW (.slice B10 bs.length d10) bs * (KV * (KU * (old w))))))))))))) := Lib.hid (SS.cong (by ac_rfl)); clear SS hqs; go_simp)
              refine hK.out _ _ ?_ (fun hHeld => ?_)
              · exact cellsW (HD.out.drop1.drop1)
              clear hK K
              try simp only [Act.put, List.setIfInBounds_toArray, List.set_cons_zero, List.set_cons_succ]
              refine wpAnyH_ready (rs := [26]) (by kernel_rfl) (by simp) ?_
              refine AllReadyH.cons rfl (fun K hK => ?_) AllReadyH.nil
              go_simp
              (refine (rSameW (xs := qs.map Pl.wr) (ys := xs2) (qs_len HST2.out HQ.out (by have := HI200.out; omega)) (qs_co HST2.out HQ.out) (kr_star (qs_keys HQ.out HPK.out) _ _ (HD.out.cong (by ac_rfl : _ = star (qs.map Pl.row) * (rW va (qs.map Pl.wr) * (pts xb z.o * (pts vb v.o * (pts ob (opC y A2 c2) * (wt r ps2 n2 * (rW (.slice B6 xs2.length d6) xs2 * (rW (.slice B9 us.length d9) us * (rW (.slice B10 bs.length d10) bs * (KV * (KU * (old w)))))))))))))) (keysR_old HST2.out.keys (HD.out.cong (by ac_rfl : _ = old w * (rW va (qs.map Pl.wr) * (star (qs.map Pl.row) * (pts xb z.o * (pts vb v.o * (pts ob (opC y A2 c2) * (wt r ps2 n2 * (rW (.slice B6 xs2.length d6) xs2 * (rW (.slice B9 us.length d9) us * (rW (.slice B10 bs.length d10) bs * (KV * (KU))))))))))))).old) (HD.out.cong (by ac_rfl : _ = rW va (qs.map Pl.wr) * (rW (.slice B6 xs2.length d6) xs2 * (star (qs.map Pl.row) * (pts xb z.o * (pts vb v.o * (pts ob (opC y A2 c2) * (wt r ps2 n2 * (rW (.slice B9 us.length d9) us * (rW (.slice B10 bs.length d10) bs * (KV * (KU * (old w)))))))))))))).mono ?_; rintro en we ⟨rfl, SS⟩; have HE : Hid (Sat w we (pts xb z.o * (pts vb v.o * (pts ob (opC y A2 c2) * (wt r ps2 n2 * (rW (.slice B6 xs2.length d6) xs2 * (rW (.slice B9 us.length d9) us * (rW (.slice B10 bs.length d10) bs * (KV * (KU * (old w))))))))))) := Lib.hid (SS.drop1.cong (by ac_rfl : _ = star (qs.map Pl.row) * (pts xb z.o * (pts vb v.o * (pts ob (opC y A2 c2) * (wt r ps2 n2 * (rW (.slice B6 xs2.length d6) xs2 * (rW (.slice B9 us.length d9) us * (rW (.slice B10 bs.length d10) bs * (KV * (KU * (old w)))))))))))).drop1; clear SS; go_simp)
              refine hK.out _ _ ?_ (fun hHeld => ?_)
              · exact cellsW HE.out
              clear hK K
              try simp only [Act.put, List.setIfInBounds_toArray, List.set_cons_zero, List.set_cons_succ]
              refine wpAnyH_take (i := 27) (v := (.bool false)) (by simp only [List.getElem?_toArray, List.getElem?_cons_succ, List.getElem?_cons_zero]; rfl) (by kernel_rfl) (by kernel_rfl) (by kernel_rfl) (fun _ _ _ h => h) (Or.inl ⟨by rfl, ?_⟩) hHeld ?_
              · (intro w hSw; (try dsimp only at hSw); go_simp; try with_reducible rfl)
              try simp only [Act.put, List.setIfInBounds_toArray, List.set_cons_zero, List.set_cons_succ]
              refine wpAnyH_take (i := 28) (v := (.bool false)) (by simp only [List.getElem?_toArray, List.getElem?_cons_succ, List.getElem?_cons_zero]; rfl) (by kernel_rfl) (by kernel_rfl) (by kernel_rfl) (fun _ _ _ h => h) (Or.inl ⟨by rfl, ?_⟩) hHeld ?_
              · (intro w hSw; (try dsimp only at hSw); go_simp; try with_reducible rfl)
              try simp only [Act.put, List.setIfInBounds_toArray, List.set_cons_zero, List.set_cons_succ]
              refine wpAnyH_take (i := 29) (v := ?_) (by simp only [List.getElem?_toArray, List.getElem?_cons_succ, List.getElem?_cons_zero]; rfl) (by kernel_rfl) (by kernel_rfl) (by kernel_rfl) (fun _ _ _ h => h) (Or.inl ⟨by rfl, ?_⟩) hHeld ?_
              rotate_left
              · (intro w hSw; (try dsimp only at hSw); go_simp; try with_reducible rfl)
              try simp only [Act.put, List.setIfInBounds_toArray, List.set_cons_zero, List.set_cons_succ]
              refine wpAnyH_take (i := 30) (v := ?_) (by simp only [List.getElem?_toArray, List.getElem?_cons_succ, List.getElem?_cons_zero]; rfl) (by kernel_rfl) (by kernel_rfl) (by kernel_rfl) (fun _ _ _ h => h) (Or.inl ⟨by rfl, ?_⟩) hHeld ?_
              rotate_left
              · (intro w hSw; (try dsimp only at hSw); go_simp; try with_reducible rfl)
              try simp only [Act.put, List.setIfInBounds_toArray, List.set_cons_zero, List.set_cons_succ]
              refine wpAnyH_take (i := 32) (v := ?_) (by simp only [List.getElem?_toArray, List.getElem?_cons_succ, List.getElem?_cons_zero]; rfl) (by kernel_rfl) (by kernel_rfl) (by kernel_rfl) (fun _ _ _ h => h) (Or.inl ⟨by rfl, ?_⟩) hHeld ?_
              rotate_left
              · (intro w hSw; (try dsimp only at hSw); go_simp; try with_reducible rfl)
              try simp only [Act.put, List.setIfInBounds_toArray, List.set_cons_zero, List.set_cons_succ]
              refine wpAnyH_take (i := 33) (v := ?_) (by simp only [List.getElem?_toArray, List.getElem?_cons_succ, List.getElem?_cons_zero]; rfl) (by kernel_rfl) (by kernel_rfl) (by kernel_rfl) (fun _ _ _ h => h) (Or.inl ⟨by rfl, ?_⟩) hHeld ?_
              rotate_left
              · (intro w hSw; (try dsimp only at hSw); go_simp; try with_reducible rfl)
              try simp only [Act.put, List.setIfInBounds_toArray, List.set_cons_zero, List.set_cons_succ]
              refine wpAnyH_ready (rs := [31]) (by kernel_rfl) (by simp) ?_
              refine AllReadyH.cons rfl (fun K hK => ?_) AllReadyH.nil
              go_simp
              (refine (wtLen (HE.out.cong (by ac_rfl : _ = wt r ps2 n2 * (pts xb z.o * (pts vb v.o * (pts ob (opC y A2 c2) * (rW (.slice B6 xs2.length d6) xs2 * (rW (.slice B9 us.length d9) us * (rW (.slice B10 bs.length d10) bs * (KV * (KU * (old w)))))))))))).mono ?_; rintro en wz ⟨rfl, rfl⟩; rw [HPX.out]; go_simp)
              refine hK.out _ _ ?_ (fun hHeld => ?_)
              · exact cellsW HE.out
              clear hK K
              try simp only [Act.put, List.setIfInBounds_toArray, List.set_cons_zero, List.set_cons_succ]
              refine wpAnyH_take (i := 34) (v := (.bool false)) (by simp only [List.getElem?_toArray, List.getElem?_cons_succ, List.getElem?_cons_zero]; rfl) (by kernel_rfl) (by kernel_rfl) (by kernel_rfl) (fun _ _ _ h => h) (Or.inl ⟨by rfl, ?_⟩) hHeld ?_
              · (intro w hSw; (try dsimp only at hSw); go_simp; try with_reducible rfl)
              try simp only [Act.put, List.setIfInBounds_toArray, List.set_cons_zero, List.set_cons_succ]
              refine wpAnyH_take (i := 35) (v := (.bool false)) (by simp only [List.getElem?_toArray, List.getElem?_cons_succ, List.getElem?_cons_zero]; rfl) (by kernel_rfl) (by kernel_rfl) (by kernel_rfl) (fun _ _ _ h => h) (Or.inl ⟨by rfl, ?_⟩) hHeld ?_
              · (intro w hSw; (try dsimp only at hSw); go_simp; try with_reducible rfl)
              try simp only [Act.put, List.setIfInBounds_toArray, List.set_cons_zero, List.set_cons_succ]
              refine wpAnyH_take (i := 36) (v := ?_) (by simp only [List.getElem?_toArray, List.getElem?_cons_succ, List.getElem?_cons_zero]; rfl) (by kernel_rfl) (by kernel_rfl) (by kernel_rfl) (fun _ _ _ h => h) (Or.inl ⟨by rfl, ?_⟩) hHeld ?_
              rotate_left
              · (intro w hSw; (try dsimp only at hSw); go_simp; try with_reducible rfl)
              try simp only [Act.put, List.setIfInBounds_toArray, List.set_cons_zero, List.set_cons_succ]
              refine wpAnyH_take (i := 37) (v := ?_) (by simp only [List.getElem?_toArray, List.getElem?_cons_succ, List.getElem?_cons_zero]; rfl) (by kernel_rfl) (by kernel_rfl) (by kernel_rfl) (fun _ _ _ h => h) (Or.inl ⟨by rfl, ?_⟩) hHeld ?_
              rotate_left
              · (intro w hSw; (try dsimp only at hSw); go_simp; try with_reducible rfl)
              try simp only [Act.put, List.setIfInBounds_toArray, List.set_cons_zero, List.set_cons_succ]
              refine wpAnyH_take (i := 38) (v := ?_) (by simp only [List.getElem?_toArray, List.getElem?_cons_succ, List.getElem?_cons_zero]; rfl) (by kernel_rfl) (by kernel_rfl) (by kernel_rfl) (fun _ _ _ h => h) (Or.inl ⟨by rfl, ?_⟩) hHeld ?_
              rotate_left
              · (intro w hSw; (try dsimp only at hSw); go_simp; try with_reducible rfl)
              try simp only [Act.put, List.setIfInBounds_toArray, List.set_cons_zero, List.set_cons_succ]
              refine wpAnyH_take (i := 39) (v := ?_) (by simp only [List.getElem?_toArray, List.getElem?_cons_succ, List.getElem?_cons_zero]; rfl) (by kernel_rfl) (by kernel_rfl) (by kernel_rfl) (fun _ _ _ h => h) (Or.inl ⟨by rfl, ?_⟩) hHeld ?_
              rotate_left
              · (intro w hSw; (try dsimp only at hSw); go_simp; try with_reducible rfl)
              try simp only [Act.put, List.setIfInBounds_toArray, List.set_cons_zero, List.set_cons_succ]
              refine wpAnyH_take (i := 40) (v := ?_) (by simp only [List.getElem?_toArray, List.getElem?_cons_succ, List.getElem?_cons_zero]; rfl) (by kernel_rfl) (by kernel_rfl) (by kernel_rfl) (fun _ _ _ h => h) (Or.inl ⟨by rfl, ?_⟩) hHeld ?_
              rotate_left
              · (intro w hSw; (try dsimp only at hSw); go_simp; try with_reducible rfl)
              try simp only [Act.put, List.setIfInBounds_toArray, List.set_cons_zero, List.set_cons_succ]
              refine wpAnyH_take (i := 42) (v := ?_) (by simp only [List.getElem?_toArray, List.getElem?_cons_succ, List.getElem?_cons_zero]; rfl) (by kernel_rfl) (by kernel_rfl) (by kernel_rfl) (fun _ _ _ h => h) (Or.inl ⟨by rfl, ?_⟩) hHeld ?_
              rotate_left
              · (intro w hSw; (try dsimp only at hSw); go_simp; try with_reducible rfl)
              try simp only [Act.put, List.setIfInBounds_toArray, List.set_cons_zero, List.set_cons_succ]
              refine wpAnyH_take (i := 43) (v := ?_) (by simp only [List.getElem?_toArray, List.getElem?_cons_succ, List.getElem?_cons_zero]; rfl) (by kernel_rfl) (by kernel_rfl) (by kernel_rfl) (fun _ _ _ h => h) (Or.inl ⟨by rfl, ?_⟩) hHeld ?_
              rotate_left
              · (intro w hSw; (try dsimp only at hSw); go_simp; try with_reducible rfl)
              try simp only [Act.put, List.setIfInBounds_toArray, List.set_cons_zero, List.set_cons_succ]
              refine wpAnyH_take (i := 44) (v := ?_) (by simp only [List.getElem?_toArray, List.getElem?_cons_succ, List.getElem?_cons_zero]; rfl) (by kernel_rfl) (by kernel_rfl) (by kernel_rfl) (fun _ _ _ h => h) (Or.inl ⟨by rfl, ?_⟩) hHeld ?_
              rotate_left
              · (intro w hSw; (try dsimp only at hSw); go_simp; try with_reducible rfl)
              try simp only [Act.put, List.setIfInBounds_toArray, List.set_cons_zero, List.set_cons_succ]
              refine wpAnyH_take (i := 45) (v := ?_) (by simp only [List.getElem?_toArray, List.getElem?_cons_succ, List.getElem?_cons_zero]; rfl) (by kernel_rfl) (by kernel_rfl) (by kernel_rfl) (fun _ _ _ h => h) (Or.inl ⟨by rfl, ?_⟩) hHeld ?_
              rotate_left
              · (intro w hSw; (try dsimp only at hSw); go_simp; try with_reducible rfl)
              try simp only [Act.put, List.setIfInBounds_toArray, List.set_cons_zero, List.set_cons_succ]
              refine wpAnyH_ready (rs := [41]) (by kernel_rfl) (by simp) ?_
              refine AllReadyH.cons rfl (fun K hK => ?_) AllReadyH.nil
              go_simp
              (refine (wtHas y.f1.f0 (HE.out.cong (by ac_rfl : _ = wt r ps2 n2 * (pts xb z.o * (pts vb v.o * (pts ob (opC y A2 c2) * (rW (.slice B6 xs2.length d6) xs2 * (rW (.slice B9 us.length d9) us * (rW (.slice B10 bs.length d10) bs * (KV * (KU * (old w)))))))))))).mono ?_; rintro en wf ⟨rfl, SS⟩; have HF2 : Hid (Sat w wf (pts xb z.o * (pts vb v.o * (pts ob (opC y A2 c2) * (wt r ps2 n2 * (rW (.slice B6 xs2.length d6) xs2 * (rW (.slice B9 us.length d9) us * (rW (.slice B10 bs.length d10) bs * (KV * (KU * (old w))))))))))) := Lib.hid (SS.cong (by ac_rfl)); clear SS; go_simp)
              refine hK.out _ _ ?_ (fun hHeld => ?_)
              · exact cellsW HF2.out
              clear hK K
              try simp only [Act.put, List.setIfInBounds_toArray, List.set_cons_zero, List.set_cons_succ]
              refine wpAnyH_ready (rs := [46]) (by kernel_rfl) (by simp) ?_
              refine AllReadyH.cons rfl (fun K hK => ?_) AllReadyH.nil
              go_simp
              (refine (rHas (by have := HST2.out.lenX; have := HI200.out; omega) (HF2.out.cong (by ac_rfl : _ = rW (.slice B6 xs2.length d6) xs2 * (pts xb z.o * (pts vb v.o * (pts ob (opC y A2 c2) * (wt r ps2 n2 * (rW (.slice B9 us.length d9) us * (rW (.slice B10 bs.length d10) bs * (KV * (KU * (old w)))))))))))).mono ?_; rintro en wg ⟨rfl, rfl⟩; rw [has_co HST2.out.co]; go_simp)
              refine hK.out _ _ ?_ (fun hHeld => ?_)
              · exact cellsW HF2.out
              clear hK K
              try simp only [Act.put, List.setIfInBounds_toArray, List.set_cons_zero, List.set_cons_succ]
              refine wpAnyH_take (i := 47) (v := (.bool false)) (by simp only [List.getElem?_toArray, List.getElem?_cons_succ, List.getElem?_cons_zero]; rfl) (by kernel_rfl) (by kernel_rfl) (by kernel_rfl) (fun _ _ _ h => h) (Or.inl ⟨by rfl, ?_⟩) hHeld ?_
              · (intro w hSw; (try dsimp only at hSw); go_simp; try with_reducible rfl)
              try simp only [Act.put, List.setIfInBounds_toArray, List.set_cons_zero, List.set_cons_succ]
              refine wpAnyH_take (i := 48) (v := (.bool false)) (by simp only [List.getElem?_toArray, List.getElem?_cons_succ, List.getElem?_cons_zero]; rfl) (by kernel_rfl) (by kernel_rfl) (by kernel_rfl) (fun _ _ _ h => h) (Or.inl ⟨by rfl, ?_⟩) hHeld ?_
              · (intro w hSw; (try dsimp only at hSw); go_simp; try with_reducible rfl)
              try simp only [Act.put, List.setIfInBounds_toArray, List.set_cons_zero, List.set_cons_succ]
              refine wpAnyH_done (by kernel_rfl) ?_ _
              refine NoPanic.normal ?_
              have HE2 : Hid (Sat w _ (wt r ps2 n2 * (rW (.slice B6 xs2.length d6) xs2 * old w))) := Lib.hid ((HF2.out.cong (by ac_rfl : _ = pts xb z.o * (pts vb v.o * (pts ob (opC y A2 c2) * (rW (.slice B9 us.length d9) us * (rW (.slice B10 bs.length d10) bs * (KV * (KU * (wt r ps2 n2 * (rW (.slice B6 xs2.length d6) xs2 * (old w))))))))))).drop1.drop1.drop1.drop1.drop1.drop1.drop1)
              clear HP HA HC3 HD HE HF2 hHeld
              go_wp2_with fail
              go_roundw
              case rel => exact ⟨i + 1, ps2, n2, xs2, B6, d6, by simp, rfl, by omega, HST2, Lib.hid (by have := HN2.out; omega), HE2⟩
              case measure => simp [RowKit.intOf]; omega
            refine AllReadyH.cons rfl (fun K hK => ?_) AllReadyH.nil
            go_simp
            (have HB := Lib.hid (HA.out.alloc z.o))
            refine hK.out _ _ ?_ (fun hHeld => ?_)
            · exact cellsW HB.out.drop1
            clear hK K
            try simp only [Act.put, List.setIfInBounds_toArray, List.set_cons_zero, List.set_cons_succ]
            refine wpAnyH_ready (rs := [16]) (by kernel_rfl) (by simp) ?_
            refine AllReadyH.cons rfl (fun K hK => ?_) AllReadyH.nil
            go_simp
            (have HB2 := Lib.hid (HB.out.alloc v.o))
            refine hK.out _ _ ?_ (fun hHeld => ?_)
            · exact cellsW HB2.out.drop1.drop1
            clear hK K
            try simp only [Act.put, List.setIfInBounds_toArray, List.set_cons_zero, List.set_cons_succ]
            refine wpAnyH_ready (rs := [19]) (by kernel_rfl) (by simp) ?_
            refine AllReadyH.cons rfl (fun K hK => ?_) AllReadyH.nil
            go_simp
            (have T := (HB2.out : Sat w _ _); simp only [World.size_alloc] at T; have T2 := row_one (x := z) (row_one (x := v) T).p2; have HT : Hid (Sat w _ (rW (.slice (some ⟨wa.heap.size + 1, 0, none⟩) 1 1) [v] * (rW (.slice (some ⟨wa.heap.size, 0, none⟩) 1 1) [z] * (pts xb z.o * (pts vb v.o * (pts ob (opC y A2 c2) * (wt r ps2 n2 * (rW (.slice B6 xs2.length d6) xs2 * (rW (.slice B9 us.length d9) us * (rW (.slice B10 bs.length d10) bs * (KV * (KU * (old w))))))))))))) := Lib.hid (T2.cong (by ac_rfl)); refine (rSameW (xs := [v]) (ys := [z]) (by simp) HCV.out (HKV.out _ _ (HT.out.cong (by ac_rfl : _ = KV * (rW (.slice (some ⟨wa.heap.size + 1, 0, none⟩) 1 1) [v] * (rW (.slice (some ⟨wa.heap.size, 0, none⟩) 1 1) [z] * (pts xb z.o * (pts vb v.o * (pts ob (opC y A2 c2) * (wt r ps2 n2 * (rW (.slice B6 xs2.length d6) xs2 * (rW (.slice B9 us.length d9) us * (rW (.slice B10 bs.length d10) bs * (KU * (old w)))))))))))))) (keysR_old HKZ.out (HT.out.cong (by ac_rfl : _ = old w * (rW (.slice (some ⟨wa.heap.size + 1, 0, none⟩) 1 1) [v] * (rW (.slice (some ⟨wa.heap.size, 0, none⟩) 1 1) [z] * (pts xb z.o * (pts vb v.o * (pts ob (opC y A2 c2) * (wt r ps2 n2 * (rW (.slice B6 xs2.length d6) xs2 * (rW (.slice B9 us.length d9) us * (rW (.slice B10 bs.length d10) bs * (KV * (KU))))))))))))).old) HT.out).mono ?_; rintro en wc ⟨rfl, SS⟩; have HC3 : Hid (Sat w wc (pts xb z.o * (pts vb v.o * (pts ob (opC y A2 c2) * (wt r ps2 n2 * (rW (.slice B6 xs2.length d6) xs2 * (rW (.slice B9 us.length d9) us * (rW (.slice B10 bs.length d10) bs * (KV * (KU * (old w))))))))))) := Lib.hid SS.drop1.drop1; clear SS T T2 HT; go_simp)
            refine hK.out _ _ ?_ (fun hHeld => ?_)
            · exact cellsW HC3.out
            clear hK K
            try simp only [Act.put, List.setIfInBounds_toArray, List.set_cons_zero, List.set_cons_succ]
            refine wpAnyH_take (i := 20) (v := (.bool false)) (by simp only [List.getElem?_toArray, List.getElem?_cons_succ, List.getElem?_cons_zero]; rfl) (by kernel_rfl) (by kernel_rfl) (by kernel_rfl) (fun _ _ _ h => h) (Or.inl ⟨by rfl, ?_⟩) hHeld ?_
            · (intro w hSw; (try dsimp only at hSw); go_simp; try with_reducible rfl)
            try simp only [Act.put, List.setIfInBounds_toArray, List.set_cons_zero, List.set_cons_succ]
            refine wpAnyH_take (i := 21) (v := (.bool false)) (by simp only [List.getElem?_toArray, List.getElem?_cons_succ, List.getElem?_cons_zero]; rfl) (by kernel_rfl) (by kernel_rfl) (by kernel_rfl) (fun _ _ _ h => h) (Or.inl ⟨by rfl, ?_⟩) hHeld ?_
            · (intro w hSw; (try dsimp only at hSw); go_simp; try with_reducible rfl)
            try simp only [Act.put, List.setIfInBounds_toArray, List.set_cons_zero, List.set_cons_succ]
            refine wpAnyH_take (i := 22) (v := ?_) (by simp only [List.getElem?_toArray, List.getElem?_cons_succ, List.getElem?_cons_zero]; rfl) (by kernel_rfl) (by kernel_rfl) (by kernel_rfl) (fun _ _ _ h => h) (Or.inl ⟨by rfl, ?_⟩) hHeld ?_
            rotate_left
            · (intro w hSw; (try dsimp only at hSw); go_simp; try with_reducible rfl)
            try simp only [Act.put, List.setIfInBounds_toArray, List.set_cons_zero, List.set_cons_succ]
            refine wpAnyH_take (i := 23) (v := ?_) (by simp only [List.getElem?_toArray, List.getElem?_cons_succ, List.getElem?_cons_zero]; rfl) (by kernel_rfl) (by kernel_rfl) (by kernel_rfl) (fun _ _ _ h => h) (Or.inl ⟨by rfl, ?_⟩) hHeld ?_
            rotate_left
            · (intro w hSw; (try dsimp only at hSw); go_simp; try with_reducible rfl)
            try simp only [Act.put, List.setIfInBounds_toArray, List.set_cons_zero, List.set_cons_succ]
            refine wpAnyH_take (i := 25) (v := ?_) (by simp only [List.getElem?_toArray, List.getElem?_cons_succ, List.getElem?_cons_zero]; rfl) (by kernel_rfl) (by kernel_rfl) (by kernel_rfl) (fun _ _ _ h => h) (Or.inl ⟨by rfl, ?_⟩) hHeld ?_
            rotate_left
            · (intro w hSw; (try dsimp only at hSw); go_simp; try with_reducible rfl)
            try simp only [Act.put, List.setIfInBounds_toArray, List.set_cons_zero, List.set_cons_succ]
            refine wpAnyH_ready (rs := [24]) (by kernel_rfl) (by simp) ?_
            refine AllReadyH.cons rfl (fun K hK => ?_) AllReadyH.nil
            go_simp
            (refine (wtAll (HC3.out.cong (by ac_rfl : _ = wt r ps2 n2 * (pts xb z.o * (pts vb v.o * (pts ob (opC y A2 c2) * (rW (.slice B6 xs2.length d6) xs2 * (rW (.slice B9 us.length d9) us * (rW (.slice B10 bs.length d10) bs * (KV * (KU * (old w)))))))))))).mono ?_; rintro en wd ⟨va, qs, hqs, rfl, SS⟩; have HQ := Lib.hid hqs; have HD : Hid (Sat w wd (rW va (qs.map Pl.wr) * (star (qs.map Pl.row) * (pts xb z.o * (pts vb v.o * (pts ob (opC y A2 c2) * (wt r ps2 n2 * (rW (.slice B6 xs2.length d6) xs2 * (rW (.slice B9 us.length d9) us * (rW (.slice B10 bs.length d10) bs * (KV * (KU * (old w))))))))))))) := Lib.hid (SS.cong (by ac_rfl)); clear SS hqs; go_simp)
            refine hK.out _ _ ?_ (fun hHeld => ?_)
            · exact cellsW (HD.out.drop1.drop1)
            clear hK K
            try simp only [Act.put, List.setIfInBounds_toArray, List.set_cons_zero, List.set_cons_succ]
            refine wpAnyH_ready (rs := [26]) (by kernel_rfl) (by simp) ?_
            refine AllReadyH.cons rfl (fun K hK => ?_) AllReadyH.nil
            go_simp
            (refine (rSameW (xs := qs.map Pl.wr) (ys := xs2) (qs_len HST2.out HQ.out (by have := HI200.out; omega)) (qs_co HST2.out HQ.out) (kr_star (qs_keys HQ.out HPK.out) _ _ (HD.out.cong (by ac_rfl : _ = star (qs.map Pl.row) * (rW va (qs.map Pl.wr) * (pts xb z.o * (pts vb v.o * (pts ob (opC y A2 c2) * (wt r ps2 n2 * (rW (.slice B6 xs2.length d6) xs2 * (rW (.slice B9 us.length d9) us * (rW (.slice B10 bs.length d10) bs * (KV * (KU * (old w)))))))))))))) (keysR_old HST2.out.keys (HD.out.cong (by ac_rfl : _ = old w * (rW va (qs.map Pl.wr) * (star (qs.map Pl.row) * (pts xb z.o * (pts vb v.o * (pts ob (opC y A2 c2) * (wt r ps2 n2 * (rW (.slice B6 xs2.length d6) xs2 * (rW (.slice B9 us.length d9) us * (rW (.slice B10 bs.length d10) bs * (KV * (KU))))))))))))).old) (HD.out.cong (by ac_rfl : _ = rW va (qs.map Pl.wr) * (rW (.slice B6 xs2.length d6) xs2 * (star (qs.map Pl.row) * (pts xb z.o * (pts vb v.o * (pts ob (opC y A2 c2) * (wt r ps2 n2 * (rW (.slice B9 us.length d9) us * (rW (.slice B10 bs.length d10) bs * (KV * (KU * (old w)))))))))))))).mono ?_; rintro en we ⟨rfl, SS⟩; have HE : Hid (Sat w we (pts xb z.o * (pts vb v.o * (pts ob (opC y A2 c2) * (wt r ps2 n2 * (rW (.slice B6 xs2.length d6) xs2 * (rW (.slice B9 us.length d9) us * (rW (.slice B10 bs.length d10) bs * (KV * (KU * (old w))))))))))) := Lib.hid (SS.drop1.cong (by ac_rfl : _ = star (qs.map Pl.row) * (pts xb z.o * (pts vb v.o * (pts ob (opC y A2 c2) * (wt r ps2 n2 * (rW (.slice B6 xs2.length d6) xs2 * (rW (.slice B9 us.length d9) us * (rW (.slice B10 bs.length d10) bs * (KV * (KU * (old w)))))))))))).drop1; clear SS; go_simp)
            refine hK.out _ _ ?_ (fun hHeld => ?_)
            · exact cellsW HE.out
            clear hK K
            try simp only [Act.put, List.setIfInBounds_toArray, List.set_cons_zero, List.set_cons_succ]
            refine wpAnyH_take (i := 27) (v := (.bool false)) (by simp only [List.getElem?_toArray, List.getElem?_cons_succ, List.getElem?_cons_zero]; rfl) (by kernel_rfl) (by kernel_rfl) (by kernel_rfl) (fun _ _ _ h => h) (Or.inl ⟨by rfl, ?_⟩) hHeld ?_
            · (intro w hSw; (try dsimp only at hSw); go_simp; try with_reducible rfl)
            try simp only [Act.put, List.setIfInBounds_toArray, List.set_cons_zero, List.set_cons_succ]
            refine wpAnyH_take (i := 28) (v := (.bool false)) (by simp only [List.getElem?_toArray, List.getElem?_cons_succ, List.getElem?_cons_zero]; rfl) (by kernel_rfl) (by kernel_rfl) (by kernel_rfl) (fun _ _ _ h => h) (Or.inl ⟨by rfl, ?_⟩) hHeld ?_
            · (intro w hSw; (try dsimp only at hSw); go_simp; try with_reducible rfl)
            try simp only [Act.put, List.setIfInBounds_toArray, List.set_cons_zero, List.set_cons_succ]
            refine wpAnyH_take (i := 29) (v := ?_) (by simp only [List.getElem?_toArray, List.getElem?_cons_succ, List.getElem?_cons_zero]; rfl) (by kernel_rfl) (by kernel_rfl) (by kernel_rfl) (fun _ _ _ h => h) (Or.inl ⟨by rfl, ?_⟩) hHeld ?_
            rotate_left
            · (intro w hSw; (try dsimp only at hSw); go_simp; try with_reducible rfl)
            try simp only [Act.put, List.setIfInBounds_toArray, List.set_cons_zero, List.set_cons_succ]
            refine wpAnyH_take (i := 30) (v := ?_) (by simp only [List.getElem?_toArray, List.getElem?_cons_succ, List.getElem?_cons_zero]; rfl) (by kernel_rfl) (by kernel_rfl) (by kernel_rfl) (fun _ _ _ h => h) (Or.inl ⟨by rfl, ?_⟩) hHeld ?_
            rotate_left
            · (intro w hSw; (try dsimp only at hSw); go_simp; try with_reducible rfl)
            try simp only [Act.put, List.setIfInBounds_toArray, List.set_cons_zero, List.set_cons_succ]
            refine wpAnyH_take (i := 32) (v := ?_) (by simp only [List.getElem?_toArray, List.getElem?_cons_succ, List.getElem?_cons_zero]; rfl) (by kernel_rfl) (by kernel_rfl) (by kernel_rfl) (fun _ _ _ h => h) (Or.inl ⟨by rfl, ?_⟩) hHeld ?_
            rotate_left
            · (intro w hSw; (try dsimp only at hSw); go_simp; try with_reducible rfl)
            try simp only [Act.put, List.setIfInBounds_toArray, List.set_cons_zero, List.set_cons_succ]
            refine wpAnyH_take (i := 33) (v := ?_) (by simp only [List.getElem?_toArray, List.getElem?_cons_succ, List.getElem?_cons_zero]; rfl) (by kernel_rfl) (by kernel_rfl) (by kernel_rfl) (fun _ _ _ h => h) (Or.inl ⟨by rfl, ?_⟩) hHeld ?_
            rotate_left
            · (intro w hSw; (try dsimp only at hSw); go_simp; try with_reducible rfl)
            try simp only [Act.put, List.setIfInBounds_toArray, List.set_cons_zero, List.set_cons_succ]
            refine wpAnyH_ready (rs := [31]) (by kernel_rfl) (by simp) ?_
            refine AllReadyH.cons rfl (fun K hK => ?_) AllReadyH.nil
            go_simp
            (refine (wtLen (HE.out.cong (by ac_rfl : _ = wt r ps2 n2 * (pts xb z.o * (pts vb v.o * (pts ob (opC y A2 c2) * (rW (.slice B6 xs2.length d6) xs2 * (rW (.slice B9 us.length d9) us * (rW (.slice B10 bs.length d10) bs * (KV * (KU * (old w)))))))))))).mono ?_; rintro en wz ⟨rfl, rfl⟩; rw [HPX.out]; go_simp)
            refine hK.out _ _ ?_ (fun hHeld => ?_)
            · exact cellsW HE.out
            clear hK K
            try simp only [Act.put, List.setIfInBounds_toArray, List.set_cons_zero, List.set_cons_succ]
            refine wpAnyH_take (i := 34) (v := (.bool false)) (by simp only [List.getElem?_toArray, List.getElem?_cons_succ, List.getElem?_cons_zero]; rfl) (by kernel_rfl) (by kernel_rfl) (by kernel_rfl) (fun _ _ _ h => h) (Or.inl ⟨by rfl, ?_⟩) hHeld ?_
            · (intro w hSw; (try dsimp only at hSw); go_simp; try with_reducible rfl)
            try simp only [Act.put, List.setIfInBounds_toArray, List.set_cons_zero, List.set_cons_succ]
            refine wpAnyH_take (i := 35) (v := (.bool false)) (by simp only [List.getElem?_toArray, List.getElem?_cons_succ, List.getElem?_cons_zero]; rfl) (by kernel_rfl) (by kernel_rfl) (by kernel_rfl) (fun _ _ _ h => h) (Or.inl ⟨by rfl, ?_⟩) hHeld ?_
            · (intro w hSw; (try dsimp only at hSw); go_simp; try with_reducible rfl)
            try simp only [Act.put, List.setIfInBounds_toArray, List.set_cons_zero, List.set_cons_succ]
            refine wpAnyH_take (i := 36) (v := ?_) (by simp only [List.getElem?_toArray, List.getElem?_cons_succ, List.getElem?_cons_zero]; rfl) (by kernel_rfl) (by kernel_rfl) (by kernel_rfl) (fun _ _ _ h => h) (Or.inl ⟨by rfl, ?_⟩) hHeld ?_
            rotate_left
            · (intro w hSw; (try dsimp only at hSw); go_simp; try with_reducible rfl)
            try simp only [Act.put, List.setIfInBounds_toArray, List.set_cons_zero, List.set_cons_succ]
            refine wpAnyH_take (i := 37) (v := ?_) (by simp only [List.getElem?_toArray, List.getElem?_cons_succ, List.getElem?_cons_zero]; rfl) (by kernel_rfl) (by kernel_rfl) (by kernel_rfl) (fun _ _ _ h => h) (Or.inl ⟨by rfl, ?_⟩) hHeld ?_
            rotate_left
            · (intro w hSw; (try dsimp only at hSw); go_simp; try with_reducible rfl)
            try simp only [Act.put, List.setIfInBounds_toArray, List.set_cons_zero, List.set_cons_succ]
            refine wpAnyH_take (i := 38) (v := ?_) (by simp only [List.getElem?_toArray, List.getElem?_cons_succ, List.getElem?_cons_zero]; rfl) (by kernel_rfl) (by kernel_rfl) (by kernel_rfl) (fun _ _ _ h => h) (Or.inl ⟨by rfl, ?_⟩) hHeld ?_
            rotate_left
            · (intro w hSw; (try dsimp only at hSw); go_simp; try with_reducible rfl)
            try simp only [Act.put, List.setIfInBounds_toArray, List.set_cons_zero, List.set_cons_succ]
            refine wpAnyH_take (i := 39) (v := ?_) (by simp only [List.getElem?_toArray, List.getElem?_cons_succ, List.getElem?_cons_zero]; rfl) (by kernel_rfl) (by kernel_rfl) (by kernel_rfl) (fun _ _ _ h => h) (Or.inl ⟨by rfl, ?_⟩) hHeld ?_
            rotate_left
            · (intro w hSw; (try dsimp only at hSw); go_simp; try with_reducible rfl)
            try simp only [Act.put, List.setIfInBounds_toArray, List.set_cons_zero, List.set_cons_succ]
            refine wpAnyH_take (i := 40) (v := ?_) (by simp only [List.getElem?_toArray, List.getElem?_cons_succ, List.getElem?_cons_zero]; rfl) (by kernel_rfl) (by kernel_rfl) (by kernel_rfl) (fun _ _ _ h => h) (Or.inl ⟨by rfl, ?_⟩) hHeld ?_
            rotate_left
            · (intro w hSw; (try dsimp only at hSw); go_simp; try with_reducible rfl)
            try simp only [Act.put, List.setIfInBounds_toArray, List.set_cons_zero, List.set_cons_succ]
            refine wpAnyH_take (i := 42) (v := ?_) (by simp only [List.getElem?_toArray, List.getElem?_cons_succ, List.getElem?_cons_zero]; rfl) (by kernel_rfl) (by kernel_rfl) (by kernel_rfl) (fun _ _ _ h => h) (Or.inl ⟨by rfl, ?_⟩) hHeld ?_
            rotate_left
            · (intro w hSw; (try dsimp only at hSw); go_simp; try with_reducible rfl)
            try simp only [Act.put, List.setIfInBounds_toArray, List.set_cons_zero, List.set_cons_succ]
            refine wpAnyH_take (i := 43) (v := ?_) (by simp only [List.getElem?_toArray, List.getElem?_cons_succ, List.getElem?_cons_zero]; rfl) (by kernel_rfl) (by kernel_rfl) (by kernel_rfl) (fun _ _ _ h => h) (Or.inl ⟨by rfl, ?_⟩) hHeld ?_
            rotate_left
            · (intro w hSw; (try dsimp only at hSw); go_simp; try with_reducible rfl)
            try simp only [Act.put, List.setIfInBounds_toArray, List.set_cons_zero, List.set_cons_succ]
            refine wpAnyH_take (i := 44) (v := ?_) (by simp only [List.getElem?_toArray, List.getElem?_cons_succ, List.getElem?_cons_zero]; rfl) (by kernel_rfl) (by kernel_rfl) (by kernel_rfl) (fun _ _ _ h => h) (Or.inl ⟨by rfl, ?_⟩) hHeld ?_
            rotate_left
            · (intro w hSw; (try dsimp only at hSw); go_simp; try with_reducible rfl)
            try simp only [Act.put, List.setIfInBounds_toArray, List.set_cons_zero, List.set_cons_succ]
            refine wpAnyH_take (i := 45) (v := ?_) (by simp only [List.getElem?_toArray, List.getElem?_cons_succ, List.getElem?_cons_zero]; rfl) (by kernel_rfl) (by kernel_rfl) (by kernel_rfl) (fun _ _ _ h => h) (Or.inl ⟨by rfl, ?_⟩) hHeld ?_
            rotate_left
            · (intro w hSw; (try dsimp only at hSw); go_simp; try with_reducible rfl)
            try simp only [Act.put, List.setIfInBounds_toArray, List.set_cons_zero, List.set_cons_succ]
            refine wpAnyH_ready (rs := [41]) (by kernel_rfl) (by simp) ?_
            refine AllReadyH.cons rfl (fun K hK => ?_) AllReadyH.nil
            go_simp
            (refine (wtHas y.f1.f0 (HE.out.cong (by ac_rfl : _ = wt r ps2 n2 * (pts xb z.o * (pts vb v.o * (pts ob (opC y A2 c2) * (rW (.slice B6 xs2.length d6) xs2 * (rW (.slice B9 us.length d9) us * (rW (.slice B10 bs.length d10) bs * (KV * (KU * (old w)))))))))))).mono ?_; rintro en wf ⟨rfl, SS⟩; have HF2 : Hid (Sat w wf (pts xb z.o * (pts vb v.o * (pts ob (opC y A2 c2) * (wt r ps2 n2 * (rW (.slice B6 xs2.length d6) xs2 * (rW (.slice B9 us.length d9) us * (rW (.slice B10 bs.length d10) bs * (KV * (KU * (old w))))))))))) := Lib.hid (SS.cong (by ac_rfl)); clear SS; go_simp)
            refine hK.out _ _ ?_ (fun hHeld => ?_)
            · exact cellsW HF2.out
            clear hK K
            try simp only [Act.put, List.setIfInBounds_toArray, List.set_cons_zero, List.set_cons_succ]
            refine wpAnyH_ready (rs := [46]) (by kernel_rfl) (by simp) ?_
            refine AllReadyH.cons rfl (fun K hK => ?_) AllReadyH.nil
            go_simp
            (refine (rHas (by have := HST2.out.lenX; have := HI200.out; omega) (HF2.out.cong (by ac_rfl : _ = rW (.slice B6 xs2.length d6) xs2 * (pts xb z.o * (pts vb v.o * (pts ob (opC y A2 c2) * (wt r ps2 n2 * (rW (.slice B9 us.length d9) us * (rW (.slice B10 bs.length d10) bs * (KV * (KU * (old w)))))))))))).mono ?_; rintro en wg ⟨rfl, rfl⟩; rw [has_co HST2.out.co]; go_simp)
            refine hK.out _ _ ?_ (fun hHeld => ?_)
            · exact cellsW HF2.out
            clear hK K
            try simp only [Act.put, List.setIfInBounds_toArray, List.set_cons_zero, List.set_cons_succ]
            refine wpAnyH_take (i := 47) (v := (.bool false)) (by simp only [List.getElem?_toArray, List.getElem?_cons_succ, List.getElem?_cons_zero]; rfl) (by kernel_rfl) (by kernel_rfl) (by kernel_rfl) (fun _ _ _ h => h) (Or.inl ⟨by rfl, ?_⟩) hHeld ?_
            · (intro w hSw; (try dsimp only at hSw); go_simp; try with_reducible rfl)
            try simp only [Act.put, List.setIfInBounds_toArray, List.set_cons_zero, List.set_cons_succ]
            refine wpAnyH_take (i := 48) (v := (.bool false)) (by simp only [List.getElem?_toArray, List.getElem?_cons_succ, List.getElem?_cons_zero]; rfl) (by kernel_rfl) (by kernel_rfl) (by kernel_rfl) (fun _ _ _ h => h) (Or.inl ⟨by rfl, ?_⟩) hHeld ?_
            · (intro w hSw; (try dsimp only at hSw); go_simp; try with_reducible rfl)
            try simp only [Act.put, List.setIfInBounds_toArray, List.set_cons_zero, List.set_cons_succ]
            refine wpAnyH_done (by kernel_rfl) ?_ _
            refine NoPanic.normal ?_
            have HE2 : Hid (Sat w _ (wt r ps2 n2 * (rW (.slice B6 xs2.length d6) xs2 * old w))) := Lib.hid ((HF2.out.cong (by ac_rfl : _ = pts xb z.o * (pts vb v.o * (pts ob (opC y A2 c2) * (rW (.slice B9 us.length d9) us * (rW (.slice B10 bs.length d10) bs * (KV * (KU * (wt r ps2 n2 * (rW (.slice B6 xs2.length d6) xs2 * (old w))))))))))).drop1.drop1.drop1.drop1.drop1.drop1.drop1)
            clear HP HA HC3 HD HE HF2 hHeld
            go_wp2_with fail
            go_roundw
            case rel => exact ⟨i + 1, ps2, n2, xs2, B6, d6, by simp, rfl, by omega, HST2, Lib.hid (by have := HN2.out; omega), HE2⟩
            case measure => simp [RowKit.intOf]; omega
            -- END A
        · have hie : i = l.length := by omega
          subst hie
          have HS3 := Lib.hid HSi.out.drop1.drop1
          clear HSi
          go_wp2_with fail
          refine (aliveWait HS3.out).mono ?_
          rintro en w5 ⟨rfl, S5⟩
          have HS5 := Lib.hid S5.old1
          clear S5
          go_wp2_with fail
          go_ret
          exact ⟨rfl, HS5.out⟩
theorem playsWaitWalk {w : World} {A0 : Option Addr} {c0 : Nat} {l : List SOp} (hC : Kd.C k32 w A0 l.length l) (hc : l.length ≤ c0) (hok : ∀ x ∈ l, x.f1.f1.length ≤ 9223372036854775807) (key : ByteArray) (_ : key.size ≤ maxLen) :
    Calls Try.prog 3 #[.slice A0 l.length c0, .string key] w fun en w' => en = .returned (.bool true) ∧ Below w.heap.size w w' := playsWait hC hc hok key
end Go.Sl
