/-
  A range over a function whose order is its own (a map's values), or that reads as it begins: the iterator's contract ('IterG'), the statement's law. Over any program, under the widest fence.
-/
import Derived.Test.YthhapcgodofpkaaRf
namespace Go.Sl
open Go.RowKit
set_option linter.unusedVariables false
variable {P : Program}

/-- 'for x := range g': it begins with Start; Kept is left to the rounds (which leave alone what the iterator holds, whatever it is); at the end it has End; St: what may come, one behind the other; Fin: what came in all. -/
def IterG {α : Type} (P : Program) (g : Nat) (la lb : Array Value) (encs : α → Array Value) (St Fin : List α → Prop) (Start Kept End : HP) : Prop :=
  ∀ (l : Nat) (w0 w : World) (I Ix : List α → HP) (J : HP), I [] = Kept * J →
    (∀ (Hd : HP) pre x W, St (pre ++ [x]) → Sat w0 W (Hd * I pre) → YieldAt WF 0 P l (encs x) W fun e W' =>
      (e = .returned (.bool true) ∧ Sat w0 W' (Hd * I (pre ++ [x]))) ∨ (e = .returned (.bool false) ∧ Sat w0 W' (Hd * Ix (pre ++ [x])))) →
    Sat w0 w (Start * J) →
    CallsIn WF 0 P g ((la ++ #[.func (.yield l) #[] #[]]) ++ lb) w fun e W' => (∃ v, e = .returned v) ∧ ((∃ ys, Fin ys ∧ Sat w0 W' (End * I ys)) ∨ ∃ pre, St pre ∧ Sat w0 W' (End * Ix pre))

/-- One loop, walked: what a round owes. -/
def RoundsG {α : Type} (P : Program) (w0 : World) (encs : α → Array Value) (ps : Array Tmp) (assign body : Code) (tmps : Array Value) (St : List α → Prop) (I : List α → HP) (Ix : Code → List α → HP) : Prop :=
  ∀ (l : Nat) (Hd : HP) (pre : List α) (x : α) (W : World) (R : HP), St (pre ++ [x]) → Sat w0 W (Hd * (I pre * R)) →
    assign.wpIn (WF.inRound l) 0 P (Exit.then (fun a1 W1 => ∃ A1 : HP, Sat w0 W1 (A1 * R) ∧ ∀ W2 r R', Sat w0 W2 (A1 * (pts l (.loop r) * R')) →
      body.wpIn (WF.inRound l) 0 P (slPost w0 (Hd) I Ix (pre ++ [x]) (pts l (.loop r) * R')) a1 W2) (fun _ _ _ => False))
      { tmps := (ps.zip (encs x)).foldl (fun t (p, v) => t.setIfInBounds p v) tmps, defers := [] } W

theorem yields_of_roundsG {α : Type} {w0 : World} {encs : α → Array Value} {ps : Array Tmp} {assign body : Code} {tmps : Array Value} {St : List α → Prop} {I : List α → HP} {Ix : Code → List α → HP}
    (hR : RoundsG P w0 encs ps assign body tmps St I Ix) (hps : ∀ x, (encs x).size = ps.size) {fn : FuncId} {l : Nat} {rec : LoopState → Option Code → Loop} {df : Nat}
    (hrec : rec = fun st pe => { state := st, pending := pe, fn, tmps, params := ps, assign, body, defers := df }) (D : HP) :
    ∀ (Hd : HP) pre x W, St (pre ++ [x]) → Sat w0 W (Hd * (I pre * (pts l (.loop (rec .ready none)) * D))) → YieldAt WF 0 P l (encs x) W fun e W' =>
      (e = .returned (.bool true) ∧ Sat w0 W' (Hd * (I (pre ++ [x]) * (pts l (.loop (rec .ready none)) * D)))) ∨
      (e = .returned (.bool false) ∧ Sat w0 W' (Hd * (ex fun c => Ix c (pre ++ [x]) * (pts l (.loop (rec .done (some c))) * D)))) := by
  intro Hd pre x W hp S
  have hl : W.heap[l]? = some (.loop (rec .ready none)) := S.p3.blk
  have hy := run_yield (P := P) (args := encs x) hl (by rw [hrec]; exact hps x)
  rw [hrec] at hy
  refine ⟨fn, _, assign, body, hy, roundIn_of_wpIn trivial (wpIn_mono (hR l Hd pre x W _ hp S) ?_)⟩
  rintro e a1 W1 h1
  cases e with
  | normal =>
    obtain ⟨A1, S1, hb⟩ := h1
    have hl1 : W1.heap[l]? = some (.loop (rec .ready none)) := S1.p2.blk
    refine ⟨_, run_beginRound hl1 (by rw [hrec]), ?_⟩
    have S2 : Sat w0 _ (A1 * (pts l (.loop { rec .ready none with state := .busy }) * D)) := (S1.p2.putObj' (o' := .loop { rec .ready none with state := .busy })).p2
    refine wpIn_mono (hb _ _ _ S2) ?_
    rintro e a3 W3 hp3
    have fin : ∀ (jump : Option Code) (A B : HP), Sat w0 W3 (A * (B * (pts l (.loop { rec .ready none with state := .busy }) * D))) →
        (Instr.endRound l jump).run P W3 = .ok (.bool jump.isNone) (W3.putObj l (.loop (rec (if jump.isNone then .ready else .done) jump))) ∧
        Sat w0 (W3.putObj l (.loop (rec (if jump.isNone then .ready else .done) jump))) (A * (B * (pts l (.loop (rec (if jump.isNone then .ready else .done) jump)) * D))) := fun jump A B S3 => by
      have := run_endRound (P := P) jump S3.p3.blk
      rw [hrec] at this ⊢
      exact ⟨this, (S3.p3.putObj' (o' := _)).cong (by ac_rfl)⟩
    cases e with
    | normal => obtain ⟨hr, S4⟩ := fin none _ _ hp3; exact ⟨_, _, hr, .inl ⟨rfl, S4⟩⟩
    | ret => obtain ⟨hr, S4⟩ := fin (some .ret) _ _ hp3; exact ⟨_, _, hr, .inr ⟨rfl, by rw [mul_ex]; exact Sat.mk_ex (A := fun c => Hd * (Ix c (pre ++ [x]) * (pts l (.loop (rec .done (some c))) * D))) _ S4⟩⟩
    | exit id => obtain ⟨hr, S4⟩ := fin (some (.exit id)) _ _ hp3; exact ⟨_, _, hr, .inr ⟨rfl, by rw [mul_ex]; exact Sat.mk_ex (A := fun c => Hd * (Ix c (pre ++ [x]) * (pts l (.loop (rec .done (some c))) * D))) _ S4⟩⟩
    | goto t => obtain ⟨hr, S4⟩ := fin (some (.goto t)) _ _ hp3; exact ⟨_, _, hr, .inr ⟨rfl, by rw [mul_ex]; exact Sat.mk_ex (A := fun c => Hd * (Ix c (pre ++ [x]) * (pts l (.loop (rec .done (some c))) * D))) _ S4⟩⟩
    | panic ch => exact hp3.elim
    | outgrown => exact hp3.elim
  | ret => exact h1.elim
  | exit id => exact h1.elim
  | goto t => exact h1.elim
  | panic ch => exact h1.elim
  | outgrown => exact h1.elim

/-- The statement, outermost, of an iterator whose order is its own. -/
theorem wpIn_rangeFunc_g {α : Type} {g : Operand} {ps : Array Tmp} {assign body : Code} {Q : Exit → Act → World → Prop} {a : Act} {w w0 : World}
    {gf : Nat} {la lb : Array Value} (hg : a.eval g = .func (.func gf) la lb) (eg : ∀ args w, (callFunc gf args).run P w = .ok (.enter gf args) w)
    {encs : α → Array Value} {St Fin : List α → Prop} {Start Kept End : HP} (hit : IterG P gf la lb encs St Fin Start Kept End) (hps : ∀ x, (encs x).size = ps.size)
    (I : List α → HP) (Ix : Code → List α → HP) (J : HP) (S : Sat w0 w (Start * J)) (hI : I [] = Kept * J)
    (hround : RoundsG P w0 encs ps assign body a.tmps St I Ix)
    (hdone : ∀ D ys W, Fin ys → Sat w0 W (pts D (.deferred (some [])) * (End * I ys)) → Q .normal { a with defers := { target := .collected D, args := #[] } :: a.defers } W)
    (hstop : ∀ D c pre W, St pre → Sat w0 W (pts D (.deferred (some [])) * (End * Ix c pre)) → c.wpIn WF 0 P Q { a with defers := { target := .collected D, args := #[] } :: a.defers } W) :
    (Code.rangeFunc g ps assign body).wpIn WF 0 P Q a w := by
  refine wpIn_rangeFunc ?_
  intro fn hfn
  obtain ⟨rec, hrec⟩ : ∃ rec : LoopState → Option Code → Loop, rec = fun st pe => { state := st, pending := pe, fn, tmps := a.tmps, params := ps, assign, body, defers := w.heap.size } := ⟨_, rfl⟩
  obtain ⟨W1, hW1⟩ : ∃ W1, (w.alloc (.deferred (some []))).alloc (.loop (rec .ready none)) = W1 := ⟨_, rfl⟩
  have S1 : Sat w0 W1 (Start * (J * (pts (w.heap.size + 1) (.loop (rec .ready none)) * pts w.heap.size (.deferred (some []))))) := by
    have := (S.alloc (.deferred (some []))).alloc (.loop (rec .ready none))
    rw [hW1, World.size_alloc] at this
    exact this.cong (by ac_rfl)
  refine ⟨w.heap.size + 1, [{ target := .collected w.heap.size, args := #[] }], W1, { target := .fn (.func gf) lb, args := la ++ #[.func (.yield (w.heap.size + 1)) #[] #[]] }, W1, gf,
    (la ++ #[.func (.yield (w.heap.size + 1)) #[] #[]]) ++ lb, W1, ?_, ?_, ?_, ?_, (fun h => by cases h), ?_⟩
  · rw [← hW1, hrec]; exact run_enterLoop_outer _ _ _ _ _
  · simp only [resolve, hg]
    simp [go_sem]
  · intro f' hf'; trivial
  · simp [invoke, go_sem, eg]
  · refine (hit (w.heap.size + 1) w0 W1 (fun pre => I pre * (pts (w.heap.size + 1) (.loop (rec .ready none)) * pts w.heap.size (.deferred (some [])))) (fun pre => ex fun c => Ix c pre * (pts (w.heap.size + 1) (.loop (rec .done (some c))) * pts w.heap.size (.deferred (some [])))) (J * (pts (w.heap.size + 1) (.loop (rec .ready none)) * pts w.heap.size (.deferred (some []))))
      (by rw [hI, sep_assoc]) (yields_of_roundsG hround hps hrec (pts w.heap.size (.deferred (some [])))) S1).mono ?_
    rintro e W2 ⟨⟨v, rfl⟩, (⟨ys, hys, S2⟩ | ⟨pre, hpre, S2⟩)⟩
    · have hl := S2.p3.blk
      refine ⟨none, _, by have := run_endLoop (P := P) hl (by rw [hrec]; simp); rw [hrec] at this; exact this, ?_⟩
      exact hdone _ ys _ hys (((S2.p3.putObj' (o' := _)).drop1).cong (by ac_rfl))
    · rw [mul_ex] at S2
      obtain ⟨c, S2⟩ := S2.ex
      have hl := S2.p3.blk
      refine ⟨some c, _, by have := run_endLoop (P := P) hl (by rw [hrec]; simp); rw [hrec] at this; exact this, ?_⟩
      exact hstop _ c pre _ hpre (((S2.p3.putObj' (o' := _)).drop1).cong (by ac_rfl))
end Go.Sl
