/-
  An argument that can be read, read as a kind's value: whole numbers, bools, texts, structs, slices of them.
-/
import Derived.Test.YthhapcgodofpkaaWWords
import Derived.Deep.Slices
import Derived.Lib.Hide
namespace Go.Sl
open Go.RowKit Go.Deep Go.ChangeShapes Go.WideShapes Go.Proofs.YthhapcgodofpkaaW.PrintWords
set_option linter.unusedVariables false

/-- Whatever reads as type t is of kind d, and ok. -/
structure Opens (P : Program) (t : TypeId) {α : Type} (d : Kd α) (ok : α → Prop) : Prop where
  out : ∀ {H : Type} {enc : TypeId × Value → H} {w : World} {base : Nat} {sp : Nat → Bool} {held : Bool} {fuel : Nat} {cs : List Value} {x : DataW H × List MemPlace},
    DataW.trod enc P w base sp held fuel t cs = some x → ∃ a, d.K w a cs ∧ ok a
section
variable {P : Program} {t e : TypeId}
theorem opens_bool (ht : P.underlying t = some .bool) : Opens P t Kd.bool (fun _ => True) := by
  constructor
  intro H enc w base sp held fuel cs x h
  obtain ⟨b, rfl, _⟩ := DataW.trod_bool ht h
  exact ⟨b, rfl, trivial⟩
theorem opens_int {k : IntKind} (ht : P.underlying t = some (.int k)) : Opens P t (Kd.int k) (fun n => (Lit.int k n).wf = true) := by
  constructor
  intro H enc w base sp held fuel cs x h
  obtain ⟨n, rfl, _, hn⟩ := DataW.trod_int ht h
  exact ⟨n, rfl, hn⟩
theorem opens_string (ht : P.underlying t = some .string) : Opens P t Kd.string (fun s => s.size ≤ maxLen) := by
  constructor
  intro H enc w base sp held fuel cs x h
  obtain ⟨n, rfl, _, hn⟩ := DataW.trod_string ht h
  exact ⟨n, rfl, hn⟩
theorem Opens.weaken {α : Type} {d : Kd α} {ok ok' : α → Prop} (h : Opens P t d ok) (hk : ∀ a, ok a → ok' a) : Opens P t d ok' :=
  ⟨fun hx => let ⟨a, ha, k⟩ := h.out hx; ⟨a, ha, hk a k⟩⟩
theorem Opens.iso {α β : Type} {d : Kd α} {ok : α → Prop} (h : Opens P t d ok) (f : β → α) (g : α → β) (hg : ∀ a, f (g a) = a) : Opens P t (Kd.iso d f) (fun b => ok (f b)) := by
  constructor
  intro H enc w base sp held fuel cs x hx
  obtain ⟨a, ha, hk⟩ := h.out hx
  exact ⟨g a, by show d.K w (f (g a)) cs; rw [hg]; exact ha, by show ok (f (g a)); rw [hg]; exact hk⟩
/-- Fields one behind the other, from offset off on. -/
structure OpensFs (P : Program) (fs : List Field) (off : Nat) {α : Type} (d : Kd α) (ok : α → Prop) : Prop where
  out : ∀ {H : Type} {enc : TypeId × Value → H} {w : World} {base : Nat} {sp : Nat → Bool} {held : Bool} {k : Nat} {cs : List Value}, cs.length = d.sz →
    (∀ f ∈ fs, ∃ x : DataW H × List MemPlace, DataW.trod enc P w base sp held k f.type ((cs.drop (f.offset - off)).take (P.cellsOf f.type)) = some x) → ∃ a, d.K w a cs ∧ ok a
theorem opensFs_one {α : Type} {d : Kd α} {ok : α → Prop} {f : Field} {off : Nat} (h : Opens P f.type d ok) (ho : f.offset = off) (hc : P.cellsOf f.type = d.sz) : OpensFs P [f] off d ok := by
  constructor
  intro H enc w base sp held k cs hl hf
  obtain ⟨x, hx⟩ := hf f (by simp)
  rw [ho, Nat.sub_self, List.drop_zero, hc, ← hl, List.take_length] at hx
  exact h.out hx
theorem opensFs_cons {α β : Type} {a : Kd α} {b : Kd β} {oka : α → Prop} {okb : β → Prop} {f : Field} {fs : List Field} {off off2 : Nat} (h : Opens P f.type a oka) (ho : f.offset = off) (hc : P.cellsOf f.type = a.sz)
    (hs : OpensFs P fs off2 b okb) (h2 : off2 = off + a.sz) (hge : fs.all (fun g => decide (off2 ≤ g.offset)) = true) : OpensFs P (f :: fs) off (Kd.pair a b) (fun p => oka p.1 ∧ okb p.2) := by
  constructor
  intro H enc w base sp held k cs hl hf
  have hl' : cs.length = a.sz + b.sz := hl
  obtain ⟨x, hx⟩ := hf f (by simp)
  rw [ho, Nat.sub_self, List.drop_zero, hc] at hx
  obtain ⟨u, hu, ku⟩ := h.out hx
  obtain ⟨v, hv, kv⟩ := hs.out (enc := enc) (w := w) (base := base) (sp := sp) (held := held) (k := k) (cs := cs.drop a.sz) (by rw [List.length_drop]; omega) (fun g hg => by
    obtain ⟨y, hy⟩ := hf g (by simp [hg])
    refine ⟨y, ?_⟩
    have hgo := of_decide_eq_true (List.all_eq_true.1 hge g hg)
    rw [List.drop_drop, show a.sz + (g.offset - off2) = g.offset - off from by omega]
    exact hy)
  exact ⟨(u, v), ⟨cs.take a.sz, cs.drop a.sz, (List.take_append_drop _ _).symm, hu, hv⟩, ku, kv⟩
theorem opens_struct {α : Type} {d : Kd α} {ok : α → Prop} {fs : Array Field} (ht : P.underlying t = some (.struct fs)) (hc : P.cellsOf t = d.sz) (h : OpensFs P fs.toList 0 d ok) : Opens P t d ok := by
  constructor
  intro H enc w base sp held fuel cs x hx
  obtain ⟨xs, n, _, _, hl, hxl, hf⟩ := DataW.trod_struct ht hx
  refine h.out (enc := enc) (base := base) (sp := sp) (held := held) (k := n) (by rw [hl, hc]) (fun f hm => ?_)
  obtain ⟨i, hi⟩ := List.getElem?_of_mem hm
  have hi' : fs[i]? = some f := by simpa using hi
  have hlt : i < xs.length := by rw [hxl]; exact (Array.getElem?_eq_some_iff.1 hi').1
  exact ⟨xs[i], by rw [Nat.sub_zero, hf i f hi', List.getElem?_eq_getElem hlt]⟩
theorem opens_slice {α : Type} [Inhabited α] {d : Kd α} {ok : α → Prop} (ht : P.underlying t = some (.slice e)) (hc : P.cellsOf e = d.sz) (h : Opens P e d ok) : Opens P t (Kd.slice e d) (fun xs => ∀ x ∈ xs, ok x) := by
  constructor
  intro H enc w base sp held fuel cs x hx
  rcases open_slice ht hx with ⟨rfl, _⟩ | ⟨a, len, cap, m, n, D, Pl, rfl, hb, hl, hm, hmm, _, hel⟩
  · exact ⟨[], ⟨none, 0, rfl, Nat.le_refl _, ⟨rfl, by simp, fun h => by simp at h⟩⟩, by simp⟩
  · have hlm : len ≤ m := by rw [hmm]; split <;> omega
    have each : ∀ i, i < len → ∃ v : α, (∃ c, c.length = d.sz ∧ d.K w v c ∧ ∀ j u, c[j]? = some u → w.cell? (a.add (i * d.sz + j)) = some u) ∧ ok v := by
      intro i hi
      obtain ⟨cs', h1, h2⟩ := hel i (by omega)
      obtain ⟨_, hlen, hcell⟩ := World.cells?_some h1
      obtain ⟨v, hv, hk⟩ := h.out h2
      refine ⟨v, ⟨cs', by rw [hlen, hc], hv, fun j u hj => ?_⟩, hk⟩
      have hjl : j < P.cellsOf e := by rw [← hlen]; exact (List.getElem?_eq_some_iff.1 hj).1
      have := hcell j hjl
      rw [Deep.add_add, hc, hj] at this
      exact this
    obtain ⟨F, hF⟩ := choose_lt each
    refine ⟨(List.range len).map F, ⟨some a, cap, by simp, by simpa using hl, ⟨rfl, by have := hm; unfold maxLen at this; simp; omega, fun _ => ⟨a, rfl, fun j p hp => ?_⟩⟩⟩, fun y hy => ?_⟩
    · obtain ⟨hj, rfl⟩ := List.getElem?_eq_some_iff.1 hp
      have hj' : j < len := by simpa using hj
      rw [List.getElem_map, List.getElem_range]
      exact (hF j hj').1
    · obtain ⟨j, hj, rfl⟩ := List.mem_map.1 hy
      exact (hF j (by simpa using hj)).2
/-- An argument that is a slice. -/
theorem Opens.arg {α : Type} {d : Kd α} {ok : List α → Prop} (h : Opens P t (Kd.slice e d) ok) {H : Type} {enc : TypeId × Value → H} {w : World} {base : Nat} {sp : Nat → Bool} {held : Bool} {A : Option Addr} {len cap : Nat} {D : DataW H} {p : List MemPlace}
    (ht : DataW.Trod enc P w base sp held t (.slice A len cap) D p) : ∃ l : List α, len = l.length ∧ l.length ≤ cap ∧ Kd.C d w A l.length l ∧ ok l := by
  obtain ⟨fuel, hf⟩ := ht
  obtain ⟨l, ⟨A', c', e1, hle, hC⟩, hk⟩ := h.out hf
  simp [Value.cells] at e1
  obtain ⟨rfl, rfl, rfl⟩ := e1
  exact ⟨l, rfl, hle, hC, hk⟩
end
end Go.Sl
