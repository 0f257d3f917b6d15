/-
  A slice that is owned, with its array: what it reads as, and append. Over any program.
-/
import Derived.Test.YthhapcgodofpkaaSl
import Derived.Maps.AppendAt
import Derived.OwnWalkIn
namespace Go.Sl
open Go.RowKit
set_option linter.unusedVariables false

/-- v is a slice of n elements of type e (sz cells each) with the cells xs; its array is owned whole. -/
def row (e sz : Nat) (v : Value) (n : Nat) (xs : List Value) : HP := fun h => xs.length = n * sz ∧
  ((v = .slice none 0 0 ∧ n = 0 ∧ ∀ b, h b = none) ∨
   ∃ g cap cur, v = .slice (some ⟨g, 0, none⟩) n cap ∧ n ≤ cap ∧ cap ≤ maxLen ∧ cur.size = cap * sz ∧ cur.toList.take (n * sz) = xs ∧ pts g (.cells cur e (0, 0)) h)

section
variable {w0 w w' : World} {e sz n : Nat} {v : Value} {xs : List Value} {R : HP} {P : Program}
theorem Sat.row_nil (S : Sat w0 w R) (e sz : Nat) : Sat w0 w (row e sz (.slice none 0 0) 0 [] * R) := by
  rw [← emp_mul R] at S
  exact S.mono1 (fun h hh => ⟨by simp, .inl ⟨rfl, rfl, hh⟩⟩)
theorem Sat.row_open (S : Sat w0 w (row e sz v n xs * R)) : xs.length = n * sz ∧ ((v = .slice none 0 0 ∧ n = 0 ∧ xs = [] ∧ Sat w0 w R) ∨
    ∃ g cap cur, v = .slice (some ⟨g, 0, none⟩) n cap ∧ n ≤ cap ∧ cap ≤ maxLen ∧ cur.size = cap * sz ∧ cur.toList.take (n * sz) = xs ∧ Sat w0 w (pts g (.cells cur e (0, 0)) * R)) := by
  have S' := S
  obtain ⟨h, ⟨h1, h2, hd, hu, ⟨hl, hx⟩, hr⟩, hw⟩ := S.has
  refine ⟨hl, ?_⟩
  rcases hx with ⟨rfl, rfl, he⟩ | ⟨g, cap, cur, rfl, hn, hm, hs, ht, hp⟩
  · exact .inl ⟨rfl, rfl, List.eq_nil_of_length_eq_zero (by simpa using hl), S'.drop1⟩
  · exact .inr ⟨g, cap, cur, rfl, hn, hm, hs, ht, S.env rfl rfl rfl (Nat.le_refl _) ⟨h, ⟨h1, h2, hd, hu, hp, hr⟩, hw⟩⟩
theorem Sat.row_shut {g cap : Nat} {cur : Array Value} (hl : xs.length = n * sz) (hn : n ≤ cap) (hm : cap ≤ maxLen) (hs : cur.size = cap * sz) (ht : cur.toList.take (n * sz) = xs)
    (S : Sat w0 w (pts g (.cells cur e (0, 0)) * R)) : Sat w0 w (row e sz (.slice (some ⟨g, 0, none⟩) n cap) n xs * R) :=
  S.mono1 fun h hh => ⟨hl, .inr ⟨g, cap, cur, rfl, hn, hm, hs, ht, hh⟩⟩
theorem Sat.row_owns (S : Sat w0 w (row e sz v n xs * R)) : w.ownsRow 0 e sz v n xs := by
  obtain ⟨hl, h⟩ := S.row_open
  rcases h with ⟨rfl, rfl, rfl, _⟩ | ⟨g, cap, cur, rfl, hn, hm, hs, ht, S1⟩
  · exact ⟨by simp, .inl ⟨rfl, rfl⟩⟩
  · exact ⟨hl, .inr ⟨g, cap, cur, rfl, Nat.zero_le _, S1.blk, hn, hm, hs, ht⟩⟩
/-- The cells of what is there. -/
theorem Sat.row_cells {A : Option Addr} {m c : Nat} (S : Sat w0 w (row e sz (.slice A m c) n xs * R)) (j : Nat) (u : Value) (hj : xs[j]? = some u) : ∃ g, A = some ⟨g, 0, none⟩ ∧ w.cell? ⟨g, j, none⟩ = some u := by
  obtain ⟨hl, h⟩ := S.row_open
  rcases h with ⟨_, _, rfl, _⟩ | ⟨g, cap, cur, hv, hn, hm, hs, ht, S1⟩
  · simp at hj
  · injection hv with h1 h2 h3
    refine ⟨g, h1, cell_of S1.blk j ?_⟩
    rw [← ht] at hj
    have hlt : j < n * sz := by
      have := (List.getElem?_eq_some_iff.1 hj).1
      simp at this; omega
    rw [List.getElem?_take_of_lt hlt] at hj
    simpa using hj
/-- A new slice made whole: 'make', or the array behind a literal. -/
theorem Sat.row_new {cur : Array Value} (S : Sat w0 w R) (hs : cur.size = n * sz) (hm : n ≤ maxLen) : Sat w0 (w.alloc (.cells cur e)) (row e sz (.slice (some ⟨w.heap.size, 0, none⟩) n n) n cur.toList * R) :=
  Sat.row_shut (by simpa using hs) (Nat.le_refl _) hm hs (by rw [← hs, ← Array.length_toList]; exact List.take_length) (S.alloc _)

/-- 'append(v, news...)'. -/
theorem Sat.run_append (S : Sat w0 w (row e sz v n xs * R)) (t ty : TypeId) {z : Value} {bytes : Nat} (ht : P.underlying t = some (.slice e)) (hinfo : (P.info? e).map (fun i => (i.zero, i.size, i.bytes)) = some (some z, sz, bytes))
    (hzs : z.cells.size = sz) (hsz : 0 < sz) (a : Addr) (m c : Nat) (news : List Value) (hl : news.length = m * sz) (hnews : ∀ j u, news[j]? = some u → w.cell? (a.add j) = some u) (h1 : ∀ u ∈ news, u.oneCell' = true)
    (h63 : n + m ≤ maxLen) (hbytes : (n + m) * bytes ≤ 140737488355328) :
    ∃ v' w', (Builtin.append_ #[t, t] ty #[v, .slice (some a) m c]).run P w = .ok v' w' ∧ Sat w0 w' (row e sz v' (n + m) (xs ++ news) * R) := by
  obtain ⟨i, hi, hz0, hz1, hz2⟩ := info_parts hinfo
  obtain ⟨v', w', hr, hown, hg, _, hat⟩ := run_append_own_at (P := P) w 0 t ty e i z sz bytes ht hi hz0 hz1 hz2 hzs hsz v n xs S.row_owns a m c news hl hnews h1 h63 hbytes (Nat.zero_le _)
  refine ⟨v', w', hr, ?_⟩
  obtain ⟨h, ⟨k1, k2, hd, hu, ⟨_, hx⟩, hR⟩, hw⟩ := S.has
  -- what R has is no block of v's, and lies in w
  have hk2 : ∀ b o, k2 b = some o → w'.heap[b]? = some o ∧ v'.ownBlock ≠ some b := by
    intro b o hb
    have hwb : w.heap[b]? = some o := hw b o (by
      rw [hu b]
      rcases hd b with e | e
      · simp [e, hb]
      · rw [e] at hb; cases hb)
    have hlt := (Array.getElem?_eq_some_iff.1 hwb).1
    have hne : v.ownBlock ≠ some b := by
      rcases hx with ⟨rfl, _, _⟩ | ⟨g, cap, cur, rfl, _, _, _, _, rfl⟩
      · simp [Value.ownBlock]
      · intro e
        simp only [Value.ownBlock, Option.some.injEq] at e
        subst e
        have := hd g
        simp [hb] at this
    refine ⟨(hg.block b hlt (fun e => hne e.symm)).trans hwb, ?_⟩
    rcases hat with e | e
    · rw [e]; exact hne
    · rw [e]; intro e'; simp at e'; omega
  have hos := S.env (w' := w') (B := row e sz v' (n + m) (xs ++ news) * R) hg.os hg.tape hg.output hg.size
  refine hos ?_
  rcases hown.2 with ⟨rfl, hn0⟩ | ⟨g, cap, cur, rfl, _, hgb, hnc, hcm, hcs, htk⟩
  · refine ⟨k2, ⟨fun _ => none, k2, fun _ => .inl rfl, fun b => by simp, ⟨hown.1, .inl ⟨rfl, hn0, fun _ => rfl⟩⟩, hR⟩, fun b o hb => (hk2 b o hb).1⟩
  · refine ⟨fun b => if b = g then some (.cells cur e (0, 0)) else k2 b, ⟨fun b => if b = g then some (.cells cur e (0, 0)) else none, k2, fun b => ?_, fun b => ?_, ⟨hown.1, .inr ⟨g, cap, cur, rfl, hnc, hcm, hcs, htk, rfl⟩⟩, hR⟩, fun b o hb => ?_⟩
    · by_cases eb : b = g
      · right
        cases hkb : k2 b with
        | none => rfl
        | some o => exact absurd (by simp [Value.ownBlock, eb]) (hk2 b o hkb).2
      · left; simp [eb]
    · by_cases eb : b = g <;> simp [eb]
    · by_cases eb : b = g
      · simp [eb] at hb; subst hb; rw [eb]; exact hgb
      · simp [eb] at hb; exact (hk2 b o hb).1
theorem row_succ (S : Sat w0 w (row e sz v (n + 1) xs * R)) : ∃ g cap, v = .slice (some ⟨g, 0, none⟩) (n + 1) cap := by
  obtain ⟨_, h⟩ := S.row_open
  rcases h with ⟨_, h0, _⟩ | ⟨g, cap, cur, hv, _⟩
  · omega
  · exact ⟨g, cap, hv⟩
end

/-! ### append at the operation, its run being known -/
theorem wpList_append_eq {P : Program} {w w' : World} {ops : Array Oper} {rest : List Oper} {o : Oper} {a : Act} {Q : Exit → Act → World → Prop} (hg : o.guard = none) (s x : Operand) (t u : TypeId)
    (hop : o.op = .call { callee := .builtin .append, args := #[s, x], argTypes := #[t, u] }) {v y v' : Value} (hs : a.eval s = v) (hx : a.eval x = y) (hr : (Builtin.append_ #[t, u] o.type #[v, y]).run P w = .ok v' w')
    (h : wpList P ops Q rest (a.put o.dst v') w') : wpList P ops Q (o :: rest) a w := by
  refine wpList_plain hg fun K hK => ?_
  unfold Oper.wp execOp
  simp only [hop, resolve, invoke, builtin, Sem.run_bind, Sem.run_pure, Result.andThen_ok, List.map_toArray, List.map_cons, List.map_nil, hs, hx, hr]
  exact hK _ _ h
theorem wpListIn_append_eq {F : Fence} {n : Nat} {P : Program} {w w' : World} {ops : Array Oper} {rest : List Oper} {o : Oper} {a : Act} {Q : Exit → Act → World → Prop} (hg : o.guard = none) (s x : Operand) (t u : TypeId)
    (hop : o.op = .call { callee := .builtin .append, args := #[s, x], argTypes := #[t, u] }) {v y v' : Value} (hs : a.eval s = v) (hx : a.eval x = y) (hr : (Builtin.append_ #[t, u] o.type #[v, y]).run P w = .ok v' w')
    (h : wpListIn F n P ops Q rest (a.put o.dst v') w') : wpListIn F n P ops Q (o :: rest) a w := by
  refine wpListIn_plain hg fun K hK => ?_
  unfold Oper.wpIn
  refine ⟨by simp [Oper.about, hop, resolve, Target.leads, Sem.run_pure], ?_⟩
  rw [Oper.semAt_plain F _ _ (by rw [hop]; intro c hc'; cases hc')]
  simp [execOp, hop, resolve, invoke, builtin, hs, hx, hr, Result.andThen]
  exact hK _ _ h

/-- 'xs[m:]'. -/
theorem run_slice_from {P : Program} {t e : TypeId} {i : TypeInfo} (ht : P.underlying t = some (.slice e)) (hi : P.info? e = some i) (A : Option Addr) (n c : Nat) (m : Int) (h0 : 0 ≤ m) (hm : m ≤ n) (W : World) :
    (Instr.slice t (.slice A n c) (some (.int .i64 m)) none none).run P W = .ok (.slice (if c = m.toNat then A else A.map (·.add (m.toNat * i.size))) (n - m.toNat) (c - m.toNat)) W := by
  simp [Instr.slice, Instr.sliceBounds, Instr.sliceBound, asIntOf, run_underlying ht, sizeOf, typeInfo, hi, Result.andThen, h0, hm]
end Go.Sl
