/-
  The contract of package wait's First.
-/
import Derived.Test.YthhapcgodofpkaaWaitD
import Derived.Deep.RegionWith
namespace Go.Sl
open Go.RowKit Go.Proofs Go.Proofs.YthhapcgodofpkaaW.PrintWords
set_option linter.unusedVariables false
set_option linter.unusedSimpArgs false
set_option maxRecDepth 100000

theorem Sat.ranging_left {κ : Type} [DecidableEq κ] {kv : κ → Value} {w0 w : World} {b r : Nat} {l todo : List (κ × Value)} {R : HP} (S : Sat w0 w (ranging kv b r l todo * R)) : w.rangeLeft b r = todo.length := by
  unfold ranging at S
  obtain ⟨⟨es, clock, seen⟩, S⟩ := S.ex1
  obtain ⟨⟨h1, h2, h3⟩, S⟩ := S.wh1
  rw [sep_assoc] at S
  have e1 := S.blk
  have e2 := S.p2.blk
  simp only at e1 e2 h3
  unfold World.rangeLeft
  rw [e1, e2]
  have := h3.length_eq
  simp only [List.length_map] at this
  rw [← this]
  unfold leftOf
  show (Array.filter (fun e => !seen.contains e.born) es).size = _
  rw [← Array.length_toList]
  simp
theorem era_lt {κ : Type} [DecidableEq κ] {l : List (κ × Value)} {k : κ} {v : Value} (h : (k, v) ∈ l) : (era l k).length < l.length := by
  unfold era
  exact List.length_filter_lt_length_iff_exists.2 ⟨(k, v), h, by simp⟩

/-- What 'first' says of those that were gone through. -/
structure Least (l todo : List (Int × Value)) (f : Int) : Prop where
  seen : ∀ x ∈ l, x ∈ todo ∨ (0 ≤ f ∧ f ≤ x.1)
  one : f = -1 ∨ ∃ x ∈ l, x.1 = f
  sub : ∀ x ∈ todo, x ∈ l
theorem Least.start (l : List (Int × Value)) : Least l l (-1) := ⟨fun x hx => .inl hx, .inl rfl, fun x hx => hx⟩
theorem Least.turn {l todo : List (Int × Value)} {f k : Int} {v : Value} (L : Least l todo f) (hm : (k, v) ∈ todo) (hk : ∀ x ∈ l, 0 < x.1) (h : f < 0 ∨ k < f) : Least l (era todo k) k where
  seen := fun x hx => by
    have hk0 := hk _ (L.sub _ hm)
    simp only at hk0
    by_cases e : x.1 = k
    · exact .inr ⟨by omega, by omega⟩
    · rcases L.seen x hx with hx | hx
      · exact .inl (List.mem_filter.2 ⟨hx, by simpa using e⟩)
      · exact .inr ⟨by omega, by rcases h with h | h <;> omega⟩
  one := .inr ⟨(k, v), L.sub _ hm, rfl⟩
  sub := fun x hx => L.sub x (List.mem_filter.1 hx).1
theorem Least.stay {l todo : List (Int × Value)} {f k : Int} {v : Value} (L : Least l todo f) (hm : (k, v) ∈ todo) (h1 : ¬ f < 0) (h2 : ¬ k < f) : Least l (era todo k) f where
  seen := fun x hx => by
    by_cases e : x.1 = k
    · exact .inr ⟨by omega, by omega⟩
    · rcases L.seen x hx with hx | hx
      · exact .inl (List.mem_filter.2 ⟨hx, by simpa using e⟩)
      · exact .inr hx
  one := L.one
  sub := fun x hx => L.sub x (List.mem_filter.1 hx).1

/-- Who waits for a key and came first. -/
def firstK (ps : List Pl) (key : ByteArray) : Option Pl := ps.find? fun p => hasS p.ks key
theorem firstK_none {ps : List Pl} {key : ByteArray} (h : firstK ps key = none) : keyOf ps key = [] := by
  unfold keyOf
  rw [List.filter_eq_nil_iff.2 (fun p hp => by have := List.find?_eq_none.1 h p hp; simpa using this)]
  rfl
theorem firstK_some {ps : List Pl} {key : ByteArray} {p : Pl} (h : firstK ps key = some p) : p ∈ ps ∧ hasS p.ks key = true := ⟨List.mem_of_find?_eq_some h, by simpa using List.find?_some h⟩
theorem firstK_least {ps : List Pl} {n : Int} (ho : WOk ps n) {key : ByteArray} {p : Pl} (h : firstK ps key = some p) : ∀ x ∈ keyOf ps key, p.c ≤ x.1 := by
  intro x hx
  obtain ⟨q, hq, rfl⟩ := List.mem_map.1 hx
  obtain ⟨hq, hk⟩ := List.mem_filter.1 hq
  obtain ⟨hp, pre, post, rfl, hno⟩ := List.find?_eq_some_iff_append.1 h
  have hc := ho.cs
  rw [List.pairwise_append, List.pairwise_cons] at hc
  rcases List.mem_append.1 hq with hq | hq
  · have := hno q hq; simp [hk] at this
  · rcases List.mem_cons.1 hq with rfl | hq
    · exact Int.le_refl _
    · exact Int.le_of_lt (hc.2.1.1 q hq)
theorem firstK_mem {ps : List Pl} {key : ByteArray} {p : Pl} (h : firstK ps key = some p) : (p.c, .int .i64 p.h) ∈ keyOf ps key :=
  List.mem_map.2 ⟨p, List.mem_filter.2 (firstK_some h), rfl⟩
theorem least_is {ps : List Pl} {n : Int} (ho : WOk ps n) {key : ByteArray} {p : Pl} (h : firstK ps key = some p) {f : Int} (L : Least (keyOf ps key) [] f) : f = p.c := by
  have h1 := L.seen _ (firstK_mem h)
  simp only [List.not_mem_nil, false_or] at h1
  rcases L.one with e | ⟨x, hx, e⟩
  · omega
  · have := firstK_least ho h x hx
    omega
theorem keyOf_lk {ps : List Pl} {n : Int} (ho : WOk ps n) {key : ByteArray} {p : Pl} (h : firstK ps key = some p) : lk (keyOf ps key) p.c = some (.int .i64 p.h) := by
  refine lk_some ?_ (firstK_mem h)
  unfold keyOf
  rw [List.map_map]
  have := (ho.cs.filter (fun p => hasS p.ks key))
  exact List.pairwise_map.2 (this.imp fun h e => by simp only [Function.comp] at e; omega)
theorem keyOf_pos {ps : List Pl} {n : Int} (ho : WOk ps n) (key : ByteArray) : ∀ x ∈ keyOf ps key, 0 < x.1 := fun x hx => by
  obtain ⟨q, hq, rfl⟩ := List.mem_map.1 hx
  exact (ho.pos q (List.mem_filter.1 hq).1).1

theorem ilen_nil (ty : TypeId) (w : World) : (Builtin.len_ #[58] ty #[.map none]).run Try.prog w = .ok (.int .i64 0) w := by
  simp [Builtin.len_, run_underlying imap, Result.andThen, goInt]

/-- 'First', of a key that nobody waits for. -/
theorem wtFirst_none {w0 w : World} {r : Nat} {ps : List Pl} {n : Int} {key : ByteArray} {R : HP} (hf : firstK ps key = none) (S : Sat w0 w (wt r ps n * R)) :
    Calls Try.prog 13 #[pt r, .string key] w fun en w' => en = .returned (.tuple #[.agg #[.int .i64 0, .slice none 0 0, .bool false, .bool false, .string ⟨#[]⟩, .bool false, .int .i64 0], .bool false]) ∧ Sat w0 w' (wt r ps n * R) := by
  obtain ⟨b, kb, hok, S1⟩ := S.wt_open
  obtain ⟨r0, r1, r2, rf⟩ := blk3 S1.blk
  have hrlt := S1.lt
  have S2 := (S1.alloc (.cells #[.int .i64 0, .slice none 0 0, .bool false, .bool false, .string ⟨#[]⟩, .bool false, .int .i64 0] 30))
  have hl := S2.p4.mmap_none (firstK_none hf) kkm skey kkzero
  have hlen := ilen_nil 3
  have HS : Hid (Sat w0 _ (wt r ps n * R)) := Lib.hid (Sat.wt_shut hok S2.drop1)
  have HB := Lib.hid S2.blk
  clear S S1 S2 hok hf
  go_enter Try.func13, Try.ntmps13
  go_wp2_with fail
  refine bodyPost_ret (results_ct rfl _ _ w.heap.size 30 _ (0, 0) _ rfl HB.out Try.underlying30 rfl wsize) rfl ?_
  exact ⟨rfl, HS.out⟩
/-- The waiter of a place. -/
theorem wfield (v0 v1 v2 v3 v4 v5 v6 v7 : Value) (w : World) : (Instr.field 57 (.agg #[v0, v1, v2, v3, v4, v5, v6, v7]) 0).run Try.prog w = .ok (.agg #[v0, v1, v2, v3, v4, v5, v6]) w := by kernel_rfl

set_option maxHeartbeats 8000000 in
/-- 'First', of a key that somebody waits for. -/
theorem wtFirst_all {w0 w : World} {r : Nat} {ps : List Pl} {n : Int} {key : ByteArray} {p : Pl} {R : HP} (hf : firstK ps key = some p) (S : Sat w0 w (wt r ps n * R)) :
    Calls Try.prog 13 #[pt r, .string key] w fun en w' => ∃ q : Pl, (∃ g c, q = { p with g := g, cap := c }) ∧ en = .returned (.tuple #[q.wv, .bool true]) ∧ Sat w0 w' (q.row * (wt r ps n * R)) := by
  obtain ⟨b, kb, hok, S1⟩ := S.wt_open
  obtain ⟨r0, r1, r2, rf⟩ := blk3 S1.blk
  have hrlt := S1.lt
  have hne : keyOf ps key ≠ [] := fun e => by have := firstK_mem hf; rw [e] at this; cases this
  obtain ⟨wb, hwb⟩ : ∃ wb, wb = w.heap.size := ⟨_, rfl⟩
  have S2 := (S1.alloc (.cells #[.int .i64 0, .slice none 0 0, .bool false, .bool false, .string ⟨#[]⟩, .bool false, .int .i64 0] 30))
  rw [← hwb] at S2
  obtain ⟨p0, hl, S3⟩ := S2.p4.mmap_some hne kkm skey kkzero
  have hlen := S3.run_len imap 3
  have hz : (((keyOf ps key).length : Int) == 0) = false := by
    rw [beq_eq_false_iff_ne]
    intro e; exact hne (List.eq_nil_of_length_eq_zero (by omega))
  have HS := Lib.hid S3
  have HOK := Lib.hid hok
  have HF := Lib.hid hf
  have HWB := Lib.hid hwb
  clear S S1 S2 S3 hok hf hne hwb
  go_enter Try.func13, Try.ntmps13
  go_wp2_with (at_range; refine wpList_range_sl _ rfl _ _ rfl _ _ imap rfl HS.out ?_; intro w3 rr S3)
  rw [← HWB.out]
  clear HS HWB r0 r1 r2 rf hrlt hl hlen
  have HS3 := Lib.hid S3
  clear S3
  go_frame
  generalize hL : keyOf ps key = L at *
  have HL := Lib.hid hL
  clear hL
  go_loopw [7] (fun v7 wr => ∃ q : Int × List (Int × Value), v7 = .int .i64 q.1 ∧ Hid (Least L q.2 q.1) ∧ Hid (Sat w0 wr (ranging (Value.int .i64) p0 rr L q.2 * (kbut kb (keyOf ps) key p0 * (pts wb (.cells #[.int .i64 0, .slice none 0 0, .bool false, .bool false, .string ⟨#[]⟩, .bool false, .int .i64 0] 30 (0, 0)) *
    (pts r (.cells #[.map (some b), .map (some kb), .int .i64 n] 54 (0, 0)) * (gmap (Value.int .i64) b (byOf ps) * (star (ps.map Pl.row) * R)))))))) (fun _ wr => wr.rangeLeft p0 rr)
  case atStart => exact ⟨(-1, L), rfl, Lib.hid (Least.start L), HS3⟩
  case round =>
    clear HS3
    obtain ⟨⟨f, todo⟩, rfl, HLe, HSr⟩ := hrel
    simp only at HLe HSr
    have hleft := HSr.out.ranging_left
    have hpos : ∀ x ∈ L, 0 < x.1 := by rw [← HL.out]; exact keyOf_pos HOK.out key
    have HPos := Lib.hid hpos
    clear hpos
    go_wp2_with (at_next; refine wpList_next_sl _ rfl _ rfl (fun _ _ h => by injection h) rfl HSr.out ?_ ?_)
    · intro h0
      subst h0
      rw [← HL.out] at HLe
      have hfc := least_is HOK.out HF.out HLe.out
      subst hfc
      have S1 := HSr.out.ranging_end
      rw [← HL.out] at S1
      obtain ⟨hpm, hpk⟩ := firstK_some HF.out
      have h83 := S1.drew.run_lookup (keys_int .i64) imap ikey izero false p.c
      rw [keyOf_lk HOK.out HF.out] at h83
      have h72 := S1.p5.drew.run_lookup (keys_int .i64) bmap ikey bzero false p.h
      rw [byOf_has HOK.out.hs hpm] at h72
      unfold Pl.v at h72
      obtain ⟨r0, r1, r2, rf⟩ := blk3 S1.p4.blk
      have hk1 := (HOK.out.pos p hpm).2.2.1
      have hk0 : 0 < p.ks.length := by
        rcases Nat.eq_zero_or_pos p.ks.length with e | e
        · exact absurd (List.eq_nil_of_length_eq_zero e) hk1
        · exact e
      have hk2 := (HOK.out.pos p hpm).2.2.2
      have S2 : Sat w0 wr.drew (p.row * (star ((dropH ps p.h).map Pl.row) * (gmap (Value.int .i64) p0 (keyOf ps key) * (kbut kb (keyOf ps) key p0 * (pts wb (.cells #[.int .i64 0, .slice none 0 0, .bool false, .bool false, .string ⟨#[]⟩, .bool false, .int .i64 0] 30 (0, 0)) *
        (pts r (.cells #[.map (some b), .map (some kb), .int .i64 n] 54 (0, 0)) * (gmap (Value.int .i64) b (byOf ps) * R))))))) := by
        refine S1.drew.cong ?_
        rw [star_perm ((dropH_perm HOK.out hpm).map Pl.row), List.map_cons, star_cons]
        ac_rfl
      have HC : Hid (Kd.C Kd.string wr.drew (some ⟨p.g, 0, none⟩) p.ks.length p.ks) := Lib.hid (Sat.row_at rfl S2)
      have HS2 := Lib.hid S2
      have HPM := Lib.hid hpm
      have hfl := wfield
      clear S1 S2 HSr HLe hpm hpk hk1 HPos hleft hz
      go_wp2_with fail
      go_region_with (go_at_call 20; refine (own_calls hk0 hk2 HC.out HS2.out).mono ?_; rintro en w9 ⟨g, cap, rfl, S9⟩; obtain ⟨d0, d1, d2, d3, d4, d5, d6, df⟩ := blk7 S9.p6.blk; have HS9 := Lib.hid S9; clear S9)
      all_goals
        obtain ⟨q, hq⟩ : ∃ q : Pl, q = { p with g := g, cap := cap } := ⟨_, rfl⟩
        have S10 := ((((((HS9.out.p6.setCell (i := 0) (.int .i64 p.h)).setCell (i := 1) (.slice (some ⟨g, 0, none⟩) p.ks.length cap)).setCell (i := 2) (.bool p.f2)).setCell (i := 3) (.bool p.f3)).setCell (i := 4) (.string p.f4)).setCell (i := 5) (.bool p.f5)).setCell (i := 6) (.int .i64 p.f6)
        have HB := Lib.hid S10.blk
        have hrow : row 9 1 (.slice (some ⟨g, 0, none⟩) p.ks.length cap) p.ks.length (p.ks.map Value.string) = q.row := by rw [hq]; rfl
        have hne : keyOf ps key ≠ [] := fun e => by have := firstK_mem HF.out; rw [e] at this; cases this
        have T1 := Sat.kbut_close (g := keyOf ps) (R := q.row * (p.row * (star ((dropH ps p.h).map Pl.row) * (pts r (.cells #[.map (some b), .map (some kb), .int .i64 n] 54 (0, 0)) * (gmap (Value.int .i64) b (byOf ps) * R))))) (fun _ _ => rfl) rfl hne (S10.drop1.cong (by rw [hrow]; ac_rfl))
        have T2 := Sat.wt_shut (r := r) (b := b) (kb := kb) (ps := ps) (n := n) (R := q.row * R) HOK.out (T1.cong (by rw [star_perm ((dropH_perm HOK.out HPM.out).map Pl.row), List.map_cons, star_cons]; ac_rfl))
        have HT := Lib.hid (T2.p2)
        clear T1 T2 S10 HS9 HS2 HC hrow hne
        go_wp2_with fail
        refine bodyPost_ret (results_ct rfl _ _ wb 30 _ (0, 0) _ rfl HB.out Try.underlying30 rfl wsize) rfl ?_
        exact ⟨q, ⟨g, cap, hq⟩, by rw [hq]; rfl, HT.out⟩
    · intro k v w9 hm hen S9
      have hl9 := era_lt hm
      have h9 := S9.ranging_left
      have HLt := HLe.out.turn hm HPos.out
      have HSt := HLe.out.stay hm
      have HS9 := Lib.hid S9
      clear HSr HLe S9 hm
      by_cases c1 : f < 0
      · have HN := Lib.hid (HLt (.inl c1))
        clear HLt HSt
        go_wp2_with fail
        go_roundw
        case rel => exact ⟨(_, _), rfl, HN, HS9⟩
        case measure => rw [h9, hleft]; exact hl9
      · by_cases c2 : k < f
        · have HN := Lib.hid (HLt (.inr c2))
          clear HLt HSt
          go_wp2_with fail
          go_roundw
          case rel => exact ⟨(_, _), rfl, HN, HS9⟩
          case measure => rw [h9, hleft]; exact hl9
        · have HN := Lib.hid (HSt c1 c2)
          clear HLt HSt
          go_wp2_with fail
          go_roundw
          case rel => exact ⟨(_, _), rfl, HN, HS9⟩
          case measure => rw [h9, hleft]; exact hl9
theorem wtFirst_some {w0 w : World} {r : Nat} {ps : List Pl} {n : Int} {key : ByteArray} {p : Pl} {R : HP} (hf : firstK ps key = some p) (S : Sat w0 w (wt r ps n * R)) :
    Calls Try.prog 13 #[pt r, .string key] w fun en w' => ∃ q : Pl, q.h = p.h ∧ q.ks = p.ks ∧ en = .returned (.tuple #[q.wv, .bool true]) ∧ Sat w0 w' (q.row * (wt r ps n * R)) :=
  (wtFirst_all hf S).mono fun en w' ⟨q, ⟨g, c, hq⟩, h1, h2⟩ => ⟨q, by rw [hq], by rw [hq], h1, h2⟩
end Go.Sl
