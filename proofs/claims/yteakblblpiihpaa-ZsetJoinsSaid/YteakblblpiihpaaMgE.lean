/-
  Arguments that are lists of pairs.
  Sorted sets: pairs put one by one; sets that are made, or not yet.
  The statements of layer 24: what they call that is the document's, in plain words; alive.
  An argument that can be read, read as a kind's value: whole numbers, bools, texts, structs, slices of them.
-/
import Derived.Test.YteakblblpiihpaaWWords
import Derived.Deep.Slices
import Derived.Lib.Hide
import Derived.Test.YteakblblpiihpaaMgD
import Derived.KernelRfl
/-! ### Open -/
namespace Go.Sl
open Go.RowKit Go.Deep Go.ChangeShapes Go.WideShapes Go.Proofs.YteakblblpiihpaaW.PrintWords
set_option linter.unusedVariables false

/-- Whatever reads as type t is of kind d, and ok. -/
structure Opens (P : Program) (t : TypeId) {α : Type} (d : Kd α) (ok : α → Prop) : Prop where
  out : ∀ {H : Type} {enc : TypeId × Value → H} {w : World} {base : Nat} {sp : Nat → Bool} {held : Bool} {fuel : Nat} {cs : List Value} {x : DataW H × List MemPlace},
    DataW.trod enc P w base sp held fuel t cs = some x → ∃ a, d.K w a cs ∧ ok a
section
variable {P : Program} {t e : TypeId}
theorem opens_bool (ht : P.underlying t = some .bool) : Opens P t Kd.bool (fun _ => True) := by
  constructor
  intro H enc w base sp held fuel cs x h
  obtain ⟨b, rfl, _⟩ := DataW.trod_bool ht h
  exact ⟨b, rfl, trivial⟩
theorem opens_int {k : IntKind} (ht : P.underlying t = some (.int k)) : Opens P t (Kd.int k) (fun n => (Lit.int k n).wf = true) := by
  constructor
  intro H enc w base sp held fuel cs x h
  obtain ⟨n, rfl, _, hn⟩ := DataW.trod_int ht h
  exact ⟨n, rfl, hn⟩
theorem opens_string (ht : P.underlying t = some .string) : Opens P t Kd.string (fun s => s.size ≤ maxLen) := by
  constructor
  intro H enc w base sp held fuel cs x h
  obtain ⟨n, rfl, _, hn⟩ := DataW.trod_string ht h
  exact ⟨n, rfl, hn⟩
theorem Opens.weaken {α : Type} {d : Kd α} {ok ok' : α → Prop} (h : Opens P t d ok) (hk : ∀ a, ok a → ok' a) : Opens P t d ok' :=
  ⟨fun hx => let ⟨a, ha, k⟩ := h.out hx; ⟨a, ha, hk a k⟩⟩
theorem Opens.iso {α β : Type} {d : Kd α} {ok : α → Prop} (h : Opens P t d ok) (f : β → α) (g : α → β) (hg : ∀ a, f (g a) = a) : Opens P t (Kd.iso d f) (fun b => ok (f b)) := by
  constructor
  intro H enc w base sp held fuel cs x hx
  obtain ⟨a, ha, hk⟩ := h.out hx
  exact ⟨g a, by show d.K w (f (g a)) cs; rw [hg]; exact ha, by show ok (f (g a)); rw [hg]; exact hk⟩
/-- Fields one behind the other, from offset off on. -/
structure OpensFs (P : Program) (fs : List Field) (off : Nat) {α : Type} (d : Kd α) (ok : α → Prop) : Prop where
  out : ∀ {H : Type} {enc : TypeId × Value → H} {w : World} {base : Nat} {sp : Nat → Bool} {held : Bool} {k : Nat} {cs : List Value}, cs.length = d.sz →
    (∀ f ∈ fs, ∃ x : DataW H × List MemPlace, DataW.trod enc P w base sp held k f.type ((cs.drop (f.offset - off)).take (P.cellsOf f.type)) = some x) → ∃ a, d.K w a cs ∧ ok a
theorem opensFs_one {α : Type} {d : Kd α} {ok : α → Prop} {f : Field} {off : Nat} (h : Opens P f.type d ok) (ho : f.offset = off) (hc : P.cellsOf f.type = d.sz) : OpensFs P [f] off d ok := by
  constructor
  intro H enc w base sp held k cs hl hf
  obtain ⟨x, hx⟩ := hf f (by simp)
  rw [ho, Nat.sub_self, List.drop_zero, hc, ← hl, List.take_length] at hx
  exact h.out hx
theorem opensFs_cons {α β : Type} {a : Kd α} {b : Kd β} {oka : α → Prop} {okb : β → Prop} {f : Field} {fs : List Field} {off off2 : Nat} (h : Opens P f.type a oka) (ho : f.offset = off) (hc : P.cellsOf f.type = a.sz)
    (hs : OpensFs P fs off2 b okb) (h2 : off2 = off + a.sz) (hge : fs.all (fun g => decide (off2 ≤ g.offset)) = true) : OpensFs P (f :: fs) off (Kd.pair a b) (fun p => oka p.1 ∧ okb p.2) := by
  constructor
  intro H enc w base sp held k cs hl hf
  have hl' : cs.length = a.sz + b.sz := hl
  obtain ⟨x, hx⟩ := hf f (by simp)
  rw [ho, Nat.sub_self, List.drop_zero, hc] at hx
  obtain ⟨u, hu, ku⟩ := h.out hx
  obtain ⟨v, hv, kv⟩ := hs.out (enc := enc) (w := w) (base := base) (sp := sp) (held := held) (k := k) (cs := cs.drop a.sz) (by rw [List.length_drop]; omega) (fun g hg => by
    obtain ⟨y, hy⟩ := hf g (by simp [hg])
    refine ⟨y, ?_⟩
    have hgo := of_decide_eq_true (List.all_eq_true.1 hge g hg)
    rw [List.drop_drop, show a.sz + (g.offset - off2) = g.offset - off from by omega]
    exact hy)
  exact ⟨(u, v), ⟨cs.take a.sz, cs.drop a.sz, (List.take_append_drop _ _).symm, hu, hv⟩, ku, kv⟩
theorem opens_struct {α : Type} {d : Kd α} {ok : α → Prop} {fs : Array Field} (ht : P.underlying t = some (.struct fs)) (hc : P.cellsOf t = d.sz) (h : OpensFs P fs.toList 0 d ok) : Opens P t d ok := by
  constructor
  intro H enc w base sp held fuel cs x hx
  obtain ⟨xs, n, _, _, hl, hxl, hf⟩ := DataW.trod_struct ht hx
  refine h.out (enc := enc) (base := base) (sp := sp) (held := held) (k := n) (by rw [hl, hc]) (fun f hm => ?_)
  obtain ⟨i, hi⟩ := List.getElem?_of_mem hm
  have hi' : fs[i]? = some f := by simpa using hi
  have hlt : i < xs.length := by rw [hxl]; exact (Array.getElem?_eq_some_iff.1 hi').1
  exact ⟨xs[i], by rw [Nat.sub_zero, hf i f hi', List.getElem?_eq_getElem hlt]⟩
theorem opens_slice {α : Type} [Inhabited α] {d : Kd α} {ok : α → Prop} (ht : P.underlying t = some (.slice e)) (hc : P.cellsOf e = d.sz) (h : Opens P e d ok) : Opens P t (Kd.slice e d) (fun xs => ∀ x ∈ xs, ok x) := by
  constructor
  intro H enc w base sp held fuel cs x hx
  rcases open_slice ht hx with ⟨rfl, _⟩ | ⟨a, len, cap, m, n, D, Pl, rfl, hb, hl, hm, hmm, _, hel⟩
  · exact ⟨[], ⟨none, 0, rfl, Nat.le_refl _, ⟨rfl, by simp, fun h => by simp at h⟩⟩, by simp⟩
  · have hlm : len ≤ m := by rw [hmm]; split <;> omega
    have each : ∀ i, i < len → ∃ v : α, (∃ c, c.length = d.sz ∧ d.K w v c ∧ ∀ j u, c[j]? = some u → w.cell? (a.add (i * d.sz + j)) = some u) ∧ ok v := by
      intro i hi
      obtain ⟨cs', h1, h2⟩ := hel i (by omega)
      obtain ⟨_, hlen, hcell⟩ := World.cells?_some h1
      obtain ⟨v, hv, hk⟩ := h.out h2
      refine ⟨v, ⟨cs', by rw [hlen, hc], hv, fun j u hj => ?_⟩, hk⟩
      have hjl : j < P.cellsOf e := by rw [← hlen]; exact (List.getElem?_eq_some_iff.1 hj).1
      have := hcell j hjl
      rw [Deep.add_add, hc, hj] at this
      exact this
    obtain ⟨F, hF⟩ := choose_lt each
    refine ⟨(List.range len).map F, ⟨some a, cap, by simp, by simpa using hl, ⟨rfl, by have := hm; unfold maxLen at this; simp; omega, fun _ => ⟨a, rfl, fun j p hp => ?_⟩⟩⟩, fun y hy => ?_⟩
    · obtain ⟨hj, rfl⟩ := List.getElem?_eq_some_iff.1 hp
      have hj' : j < len := by simpa using hj
      rw [List.getElem_map, List.getElem_range]
      exact (hF j hj').1
    · obtain ⟨j, hj, rfl⟩ := List.mem_map.1 hy
      exact (hF j (by simpa using hj)).2
/-- An argument that is a slice. -/
theorem Opens.arg {α : Type} {d : Kd α} {ok : List α → Prop} (h : Opens P t (Kd.slice e d) ok) {H : Type} {enc : TypeId × Value → H} {w : World} {base : Nat} {sp : Nat → Bool} {held : Bool} {A : Option Addr} {len cap : Nat} {D : DataW H} {p : List MemPlace}
    (ht : DataW.Trod enc P w base sp held t (.slice A len cap) D p) : ∃ l : List α, len = l.length ∧ l.length ≤ cap ∧ Kd.C d w A l.length l ∧ ok l := by
  obtain ⟨fuel, hf⟩ := ht
  obtain ⟨l, ⟨A', c', e1, hle, hC⟩, hk⟩ := h.out hf
  simp [Value.cells] at e1
  obtain ⟨rfl, rfl, rfl⟩ := e1
  exact ⟨l, rfl, hle, hC, hk⟩
end
end Go.Sl
/-! ### LawZs -/
namespace Go.Sl
open Go.RowKit Go.Proofs Go.Proofs.YteakblblpiihpaaW.PrintWords Go.Proofs.Yteakblblpiihpaa.PZs Go.Sl.DI64
set_option linter.unusedVariables false
set_option linter.unusedSimpArgs false
set_option maxRecDepth 100000

instance : Inhabited Sc := ⟨z30⟩
theorem toList_injZ {a b : ByteArray} : a.toList = b.toList ↔ a = b := by
  refine ⟨fun h => ?_, fun h => by rw [h]⟩
  rw [ByteArray.toList_eq, ByteArray.toList_eq] at h
  cases a; cases b
  simp only [ByteArray.mk.injEq]
  exact Array.toList_inj.1 h
theorem wrap_upZ {i n : Nat} (h : i < n) (hn : n ≤ 9223372036854775807) : wrap64 ((i : Int) + 1) = ((i + 1 : Nat) : Int) := by
  unfold wrap64; omega
theorem rdS_at (xs : List Sc) (i : Nat) (h : i < xs.length) : rd_T30 xs (i : Int) = xs[i] := by
  unfold rd_T30
  simp [List.getD_eq_getElem?_getD, h]
/-- 'Z.Same' of two lists that are one. -/
theorem rsameZ_l0 {xs : List Sc} (hs : xs.length ≤ 9223372036854775807) : ∀ (d k : Nat) (i : Nat), xs.length - i = d → d < k → i ≤ xs.length → mewsref10_Same.l0 k xs xs i = some true := by
  intro d
  induction d with
  | zero =>
    intro k i hd hk hi
    obtain ⟨k, rfl⟩ : ∃ m, k = m + 1 := ⟨k - 1, by omega⟩
    simp only [mewsref10_Same.l0]
    rw [if_neg (by omega)]
  | succ d ih =>
    intro k i hd hk hi
    obtain ⟨k, rfl⟩ : ∃ m, k = m + 1 := ⟨k - 1, by omega⟩
    have h1 : i < xs.length := by omega
    simp only [mewsref10_Same.l0]
    rw [if_pos (by omega), if_pos (by omega), if_pos (by omega), if_neg (by simp), wrap_upZ h1 hs, ih k (i + 1) (by omega) (by omega) (by omega)]
theorem rsameZ_f (xs : List Sc) (hs : xs.length ≤ 9223372036854775807) : mewsref10_Same.f (xs.length + 1) xs xs = some true := by
  unfold mewsref10_Same.f
  rw [if_pos rfl]
  exact rsameZ_l0 hs xs.length (xs.length + 1) 0 (by omega) (by omega) (by omega)
theorem lessZ_f (a b : Sc) : mewsref10_Less.f a.f0 a.f1 b.f0 b.f1 = some (ltS a b) := by
  unfold mewsref10_Less.f ltS
  by_cases e : a.f1 = b.f1
  · rw [if_pos e]; simp [e]
  · rw [if_neg e]; simp [e]
theorem drawn_satZ {w0 w w' : World} {A : HP} (S : Sat w0 w A) (h : Drawn0 w w') : Sat w0 w' A := S.below h.below
/-- 'Z.Same', of two rows that are one. -/
theorem zSame {w0 w : World} {v v' : Value} {l : List Sc} {R : HP} (hb : l.length ≤ 1000000) (S : Sat w0 w (rS v l * (rS v' l * R))) :
    Calls Try.prog 18 #[v, v'] w fun en w' => en = .returned (.bool true) ∧ Sat w0 w' (rS v l * (rS v' l * R)) := by
  obtain ⟨A, c, rfl, hc, hC⟩ := Sat.row_C flatS rfl S
  obtain ⟨A', c', rfl, hc', hC'⟩ := Sat.row_C flatS rfl S.p2
  refine (mewsref10_Same.calls (l.length + 1) A c l A' c' l true w hC hc hC' hc' (rsameZ_f l (by omega))).mono ?_
  rintro en w' ⟨rfl, hd⟩
  exact ⟨rfl, drawn_satZ S hd⟩
abbrev kA : ByteArray := ⟨#[97]⟩
abbrev kB : ByteArray := ⟨#[98]⟩
abbrev kC : ByteArray := ⟨#[99]⟩
def zl1 : List Sc := [⟨kA, 1⟩]
def zl2 : List Sc := [⟨kA, 1⟩, ⟨kB, 2⟩]
def zl3 : List Sc := [⟨kA, 1⟩, ⟨kB, 2⟩, ⟨kC, 2⟩]
theorem zq1 : putS [] ⟨kA, 1⟩ = zl1 ∧ (!(findS [] kA).isSome) = true := ⟨by kernel_rfl, by decide +kernel⟩
theorem zq2 : putS zl1 ⟨kB, 2⟩ = zl2 ∧ (!(findS zl1 kB).isSome) = true := ⟨by kernel_rfl, by decide +kernel⟩
theorem zq3 : putS zl2 ⟨kC, 2⟩ = zl3 ∧ (!(findS zl2 kC).isSome) = true := ⟨by kernel_rfl, by decide +kernel⟩
theorem zq4 : putS zl3 ⟨kC, 2⟩ = zl3 ∧ (!(findS zl3 kC).isSome) = false := ⟨by kernel_rfl, by decide +kernel⟩
theorem zq5 : rangeI zl3 (fromI zl3 0 1 true) (upI zl3 0 1 true 1 0 false) true 1 5 = [⟨kB, 2⟩] := by kernel_rfl
theorem zq6 : rkS zl3 kC true = 0 := by kernel_rfl
set_option maxHeartbeats 4000000 in
/-- 'alive()'. -/
theorem aliveZs {w0 w : World} {R : HP} (S : Sat w0 w R) :
    Calls Try.prog 8 #[] w fun en w' => en = .returned (.bool true) ∧ Sat w0 w' R := by
  have HS := Lib.hid S
  clear S
  go_enter Try.func8, Try.ntmps8
  go_wp2_with fail
  refine (zsNew HS.out).mono ?_
  rintro en w1 ⟨b, rfl, S1⟩
  have HS1 := Lib.hid S1
  clear S1 HS
  go_wp2_with fail
  refine (zsPut (by decide) (by decide) HS1.out).mono ?_
  rintro en w2 ⟨rfl, S2⟩
  rw [zq1.1] at S2
  rw [zq1.2]
  have HS2 := Lib.hid S2
  clear S2 HS1
  go_wp2_with fail
  refine (zsPut (by decide) (by decide) HS2.out).mono ?_
  rintro en w3 ⟨rfl, S3⟩
  rw [zq2.1] at S3
  rw [zq2.2]
  have HS3 := Lib.hid S3
  clear S3 HS2
  go_wp2_with fail
  refine (zsPut (by decide) (by decide) HS3.out).mono ?_
  rintro en w4 ⟨rfl, S4⟩
  rw [zq3.1] at S4
  rw [zq3.2]
  have HS4 := Lib.hid S4
  clear S4 HS3
  go_wp2_with fail
  refine (zsPut (by decide) (by decide) HS4.out).mono ?_
  rintro en w5 ⟨rfl, S5⟩
  rw [zq4.1] at S5
  rw [zq4.2]
  have HS5 := Lib.hid S5
  clear S5 HS4
  go_wp2_with fail
  refine (zsRange (by decide) (by decide) HS5.out).mono ?_
  rintro en w6 ⟨v, rfl, S6⟩
  rw [zq5] at S6
  have S7 : Sat w0 (w6.alloc (.cells #[.string kB, .int .i64 2] 30)) (rS (.slice (some ⟨w6.heap.size, 0, none⟩) 1 1) [⟨kB, 2⟩] * _) := Sat.row_new (e := 30) (sz := 2) (n := 1) S6 rfl (by decide)
  have HS7 := Lib.hid S7.p2
  clear S6 S7 HS5
  go_wp2_with fail
  refine (zSame (by decide) HS7.out).mono ?_
  rintro en w7 ⟨rfl, S8⟩
  have HS8 := Lib.hid S8.drop1.drop1
  clear S8 HS7
  go_wp2_with fail
  refine (zsRank (by decide) HS8.out).mono ?_
  rintro en w8 ⟨rfl, S9⟩
  rw [zq6]
  have HS9 := Lib.hid S9
  clear S9 HS8
  go_wp2_with fail
  refine (zsLen HS9.out).mono ?_
  rintro en w9 ⟨rfl, rfl⟩
  rw [show zl3.length = 3 from rfl]
  go_wp2_with fail
  go_ret
  exact ⟨rfl, HS9.out.drop1⟩
end Go.Sl
/-! ### ZsX -/
namespace Go.Sl
open Go.RowKit Go.Proofs Go.Proofs.YteakblblpiihpaaW.PrintWords Go.Proofs.Yteakblblpiihpaa.PZs Go.Sl.DI64
set_option linter.unusedVariables false
set_option linter.unusedSimpArgs false
set_option maxRecDepth 100000

theorem findS_iff {l : List Sc} (h : (l.map (·.f0)).Nodup) (m : ByteArray) (v : Int) : findS l m = some v ↔ (⟨m, v⟩ : Sc) ∈ l := by
  unfold findS
  constructor
  · intro e
    obtain ⟨x, hx, rfl⟩ := Option.map_eq_some_iff.1 e
    have := List.find?_some hx
    have hm : x.f0 = m := by simpa using this
    subst hm
    exact List.mem_of_find?_eq_some hx
  · intro hm
    cases hf : l.find? (fun x => decide (x.f0 = m)) with
    | none => exact absurd (List.find?_eq_none.1 hf _ hm) (by simp)
    | some y =>
      have hy := List.mem_of_find?_eq_some hf
      have e1 : y.f0 = m := by simpa using List.find?_some hf
      obtain ⟨i, hi, rfl⟩ := List.mem_iff_getElem.1 hy
      obtain ⟨j, hj, e2⟩ := List.mem_iff_getElem.1 hm
      have : i = j := (List.getElem_inj (xs := l.map (·.f0)) (h₀ := by simpa using hi) (h₁ := by simpa using hj) h).1 (by simp [e1, e2])
      subst this
      rw [e2]
      rfl
theorem put_perm (l : List Sc) (x : Sc) : (putS l x).Perm (x :: outS l x.f0) := ins_perm_S _ _
theorem put_length (l : List Sc) (x : Sc) : (putS l x).length ≤ l.length + 1 := by
  rw [(put_perm l x).length_eq]
  have := List.length_filter_le (fun y : Sc => !decide (y.f0 = x.f0)) l
  simp only [List.length_cons, outS]
  omega
theorem put_ok {l : List Sc} {x : Sc} (h : ZOk l) (hs : x.f0.size ≤ maxLen) (hb : l.length < 1000000) : ZOk (putS l x) :=
  ins_ok (out_ok h _) (fun y hy => out_not y hy) hs (Nat.lt_of_le_of_lt (List.length_filter_le _ _) hb)
theorem find_put {l : List Sc} {x : Sc} (h : ZOk l) (h' : ZOk (putS l x)) (m : ByteArray) : findS (putS l x) m = if m = x.f0 then some x.f1 else findS l m := by
  by_cases e : m = x.f0
  · subst e
    rw [if_pos rfl, findS_iff h'.ks]
    exact (put_perm l x).mem_iff.2 (by simp)
  · rw [if_neg e]
    refine Option.ext fun v => ?_
    rw [findS_iff h'.ks, findS_iff h.ks, (put_perm l x).mem_iff, List.mem_cons]
    unfold outS
    rw [List.mem_filter]
    constructor
    · rintro (h1 | h1)
      · exact absurd (congrArg S30.f0 h1) e
      · exact h1.1
    · intro h1
      exact .inr ⟨h1, by simpa using e⟩
/-- All are put, one by one. -/
def putsS (l : List Sc) : List Sc := l.foldl putS []
theorem puts_take (l : List Sc) {i : Nat} (h : i < l.length) : putsS (l.take (i + 1)) = putS (putsS (l.take i)) l[i] := by
  unfold putsS
  rw [List.take_add_one, List.getElem?_eq_getElem h, Option.toList_some, List.foldl_append]
  rfl
theorem zok_nil : ZOk [] := ⟨List.Pairwise.nil, by simp, by simp, by simp⟩
theorem puts_ok {l : List Sc} (hs : ∀ x ∈ l, x.f0.size ≤ maxLen) (hb : l.length ≤ 100000) : ∀ i, i ≤ l.length → ZOk (putsS (l.take i)) ∧ (putsS (l.take i)).length ≤ i := by
  intro i
  induction i with
  | zero => intro _; exact ⟨zok_nil, Nat.le_refl _⟩
  | succ i ih =>
    intro hi
    obtain ⟨h1, h2⟩ := ih (by omega)
    rw [puts_take l (by omega)]
    exact ⟨put_ok h1 (hs _ (List.getElem_mem _)) (by omega), Nat.le_trans (put_length _ _) (by omega)⟩
theorem puts_has {l : List Sc} (hs : ∀ x ∈ l, x.f0.size ≤ maxLen) (hb : l.length ≤ 100000) : ∀ i, i ≤ l.length → ∀ j (h : j < l.length), j < i → (findS (putsS (l.take i)) l[j].f0).isSome = true := by
  intro i
  induction i with
  | zero => intro _ j _ hj; omega
  | succ i ih =>
    intro hi j hjl hj
    have h1 := puts_ok hs hb i (by omega)
    have h2 := puts_ok hs hb (i + 1) hi
    rw [puts_take l (by omega)] at h2 ⊢
    rw [find_put h1.1 h2.1]
    by_cases e : l[j].f0 = l[i].f0
    · rw [if_pos e]; rfl
    · rw [if_neg e]
      exact ih (by omega) j hjl (by
        rcases Nat.lt_or_ge j i with h | h
        · exact h
        · exfalso
          have : j = i := by omega
          subst this
          exact e rfl)
/-- A set that has been made, or not yet. -/
def zsX (i s : Nat) (l : List Sc) : HP := if i = 0 then zs0 s else zs s l
theorem zsPutX {w0 w : World} {i s : Nat} {l : List Sc} {m : ByteArray} {n : Int} {R : HP} (hm : m.size ≤ maxLen) (hb : l.length < 1000000) (h0 : i = 0 → l = []) (S : Sat w0 w (zsX i s l * R)) :
    Calls Try.prog 9 #[pt s, .string m, .int .i64 n] w fun en w' => (∃ b, en = .returned (.bool b)) ∧ Sat w0 w' (zs s (putS l ⟨m, n⟩) * R) := by
  unfold zsX at S
  by_cases e : i = 0
  · rw [if_pos e] at S
    refine (zsPut0 (l := l) hm (h0 e) S).mono ?_
    rintro en w' ⟨rfl, S'⟩
    exact ⟨⟨_, rfl⟩, S'⟩
  · rw [if_neg e] at S
    refine (zsPut hm hb S).mono ?_
    rintro en w' ⟨rfl, S'⟩
    exact ⟨⟨_, rfl⟩, S'⟩
/-- 'All', of a set that nobody made. -/
theorem zsAll0 {w0 w : World} {s : Nat} {R : HP} (S : Sat w0 w (zs0 s * R)) :
    Calls Try.prog 11 #[pt s] w fun en w' => ∃ v, en = .returned v ∧ Sat w0 w' (rS v [] * (zs s [] * R)) := by
  have HS := Lib.hid S
  clear S
  go_enter Try.func11, Try.ntmps11
  go_wp2_with fail
  refine (zsLen0 HS.out).mono ?_
  rintro en w1 ⟨rfl, S1⟩
  have HS1 := Lib.hid S1
  clear S1 HS
  go_wp2_with fail
  refine (zsCut_nil HS1.out).mono ?_
  rintro en w' ⟨rfl, rfl⟩
  go_wp2_with fail
  go_ret
  exact ⟨_, rfl, HS1.out.row_nil _ _⟩
theorem zsAllX {w0 w : World} {i s : Nat} {l : List Sc} {R : HP} (h0 : i = 0 → l = []) (S : Sat w0 w (zsX i s l * R)) :
    Calls Try.prog 11 #[pt s] w fun en w' => ∃ v, en = .returned v ∧ Sat w0 w' (rS v l * (zs s l * R)) := by
  unfold zsX at S
  by_cases e : i = 0
  · rw [if_pos e] at S
    rw [h0 e]
    exact zsAll0 S
  · rw [if_neg e] at S
    exact zsAll S
/-- An argument's element. -/
theorem argZ {w wr : World} {A : Option Addr} {l : List Sc} (hr : Kd.C k30 w A l.length l) (hb : Below w.heap.size w wr) {i : Nat} (h : i < l.length) :
    ∃ ad : Addr, A = some ad ∧ wr.cell? (ad.add (i * 2)) = some (.string l[i].f0) ∧ wr.cell? ⟨(ad.add (i * 2)).block, (ad.add (i * 2)).off + 1, none⟩ = some (.int .i64 l[i].f1) := by
  obtain ⟨ad, e1, hx0, hx1⟩ := at_T30 hr (i : Int) (by omega) (by omega)
  have erd : rd_T30 l (i : Int) = l[i] := rdS_at l i h
  rw [Int.toNat_natCast, erd] at hx0 hx1
  exact ⟨ad, e1, (hb.cell (World.block_lt_of_cell? w _ hx0)).trans hx0, (hb.cell (World.block_lt_of_cell? w _ hx1)).trans hx1⟩
theorem find_at {l : List Sc} (h : ZOk l) {i : Nat} (hi : i < l.length) : findS l l[i].f0 = some l[i].f1 := (findS_iff h.ks _ _).2 (List.getElem_mem hi)
theorem rk_at {l : List Sc} (h : ZOk l) {i : Nat} (hi : i < l.length) : rkS l l[i].f0 false = i ∧ rkS l l[i].f0 true = (l.length : Int) - 1 - i := by
  have e : l = l.take i ++ l[i] :: l.drop (i + 1) := by rw [← List.drop_eq_getElem_cons hi, List.take_append_drop]
  have hx := idx_split h e
  have hl : (l.take i).length = i := by rw [List.length_take]; omega
  rw [hl] at hx
  unfold rkS
  rw [find_at h hi]
  simp only [hx, Bool.false_eq_true, if_false, if_true]
  exact ⟨trivial, trivial⟩
theorem rk_ge {l : List Sc} {m : ByteArray} (h : (findS l m).isSome = true) : 0 ≤ rkS l m false := by
  unfold rkS
  cases hf : findS l m with
  | none => rw [hf] at h; cases h
  | some v => simp only [Bool.false_eq_true, if_false]; omega
end Go.Sl
/-! ### OpZs -/
namespace Go.Sl
open Go.RowKit Go.Proofs Go.Proofs.YteakblblpiihpaaW.PrintWords Go.Proofs.Yteakblblpiihpaa.PZs
set_option linter.unusedVariables false
set_option maxRecDepth 100000
theorem opensSc : Opens Try.prog 30 k30 (fun x => x.f0.size ≤ maxLen ∧ (Lit.int .i64 x.f1).wf = true) := by
  have h := opens_struct (P := Try.prog) (t := 30) Try.underlying30 (by kernel_rfl) (opensFs_cons (opens_string Try.underlying9) rfl (by kernel_rfl) (opensFs_one (off := 1) (opens_int Try.underlying2) rfl (by kernel_rfl)) rfl rfl)
  exact (h.iso (fun x : Sc => (x.f0, x.f1)) (fun p => ⟨p.1, p.2⟩) (fun _ => rfl)).weaken (fun a h => h)
theorem opensScs : Opens Try.prog 22 (Kd.slice 30 k30) (fun xs => ∀ x ∈ xs, x.f0.size ≤ maxLen ∧ (Lit.int .i64 x.f1).wf = true) := opens_slice Try.underlying22 (by kernel_rfl) opensSc
end Go.Sl
