/-
  A row of flat elements that is owned, sorted by slices.SortFunc: the sort's worlds, in the words of owned blocks. Over any program.
  The document's Join, by contract.
  zset.Join: the document's sums, in plain words: times, Add, one.
-/
import Derived.Test.YteakblblpiihpaaMgI
import Derived.Test.YteakblblpiihpaaMgF
import Derived.Deep.RegionWith
import Derived.Test.YteakblblpiihpaaMgC
import Derived.Shelf.SlSortCmp.NoneTotal
/-! ### Jp -/
namespace Go.Sl
open Go.RowKit Go.Proofs Go.Proofs.YteakblblpiihpaaW.PrintWords Go.Proofs.Yteakblblpiihpaa.PZs
set_option linter.unusedVariables false
set_option linter.unusedSimpArgs false
set_option maxRecDepth 100000

theorem tdiv_ne {n a b t : Int} (hn : -9223372036854775808 ≤ n ∧ n ≤ 9223372036854775807) (hb0 : b ≠ 0) (hb : -9223372036854775808 ≤ b ∧ b ≤ 9223372036854775807) (ht : t ≠ 0) (e : a * b = n + 18446744073709551616 * t) : n.tdiv b ≠ a := fun h => by
  have h1 := Int.mul_tdiv_add_tmod n b
  rw [h] at h1
  have h2 : (n.tmod b).natAbs = n.natAbs % b.natAbs := Int.natAbs_tmod n b
  have h3 : n.natAbs % b.natAbs < b.natAbs := Nat.mod_lt _ (by omega)
  rw [← h2] at h3
  have h4 : b * a = a * b := Int.mul_comm b a
  rw [h4, e] at h1
  omega
theorem wrap_split (q : Int) : ∃ t, q = wrap64 q + 18446744073709551616 * t ∧ -9223372036854775808 ≤ wrap64 q ∧ wrap64 q ≤ 9223372036854775807 :=
  ⟨(q - wrap64 q) / 18446744073709551616, by unfold wrap64; omega, by unfold wrap64; omega, by unfold wrap64; omega⟩
theorem tdiv_in {n b : Int} (hn : -9223372036854775808 ≤ n ∧ n ≤ 9223372036854775807) (hb : b ≠ -1) : -9223372036854775808 ≤ n.tdiv b ∧ n.tdiv b ≤ 9223372036854775807 := by
  have h : (n.tdiv b).natAbs = n.natAbs / b.natAbs := Int.natAbs_tdiv n b
  by_cases h1 : b.natAbs ≤ 1
  · by_cases h0 : b = 0
    · subst h0; simp
    · have : b = 1 := by omega
      subst this; simpa using hn
  · have : n.natAbs / b.natAbs ≤ n.natAbs / 2 := Nat.div_le_div_left (by omega) (by omega)
    omega
/-- R.times. -/
theorem rtimes_f (k : Nat) {a b : Int} (ha : fitsI a = true) (hb : fitsI b = true) : ∃ v, mewsref24_times.f (k + 2) a b = some (v, fitsI (a * b)) ∧ (fitsI (a * b) = true → v = a * b) ∧ fitsI v = true := by
  obtain ⟨a0, a1⟩ := fitsI_iff.1 ha
  obtain ⟨b0, b1⟩ := fitsI_iff.1 hb
  unfold lo63 hi63 at *
  have f0 : fitsI 0 = true := by decide
  unfold mewsref24_times.f
  by_cases ha0 : a = 0
  · subst ha0
    rw [if_pos rfl, Int.zero_mul]
    exact ⟨0, by simp only [mewsref24_times.j0, if_true]; rw [f0], fun _ => rfl, f0⟩
  rw [if_neg ha0]
  by_cases hb0 : b = 0
  · subst hb0
    rw [Int.mul_zero]
    exact ⟨0, by simp only [mewsref24_times.j0]; rw [if_pos (by decide), f0], fun _ => rfl, f0⟩
  have hbb : (b == 0) = false := by rw [beq_eq_false_iff_ne]; exact hb0
  simp only [hbb, mewsref24_times.j0, Bool.false_eq_true, if_false]
  by_cases h1 : a = -1 ∧ b = -9223372036854775808
  · obtain ⟨rfl, rfl⟩ := h1
    exact ⟨0, by simp only [mewsref24_times.j1]; decide, fun h => absurd h (by decide), f0⟩
  by_cases h2 : b = -1 ∧ a = -9223372036854775808
  · obtain ⟨rfl, rfl⟩ := h2
    exact ⟨0, by simp only [mewsref24_times.j1]; decide, fun h => absurd h (by decide), f0⟩
  have key : (if a = -1 then (if b = -9223372036854775808 then mewsref24_times.j1 (k + 1) a b true else if b = -1 then mewsref24_times.j1 (k + 1) a b (a == -9223372036854775808) else mewsref24_times.j1 (k + 1) a b false) else if b = -1 then mewsref24_times.j1 (k + 1) a b (a == -9223372036854775808) else mewsref24_times.j1 (k + 1) a b false) = mewsref24_times.j1 (k + 1) a b false := by
    have e : b = -1 → (a == -9223372036854775808) = false := fun hb => by rw [beq_eq_false_iff_ne]; exact fun h => h2 ⟨hb, h⟩
    by_cases hA : a = -1
    · rw [if_pos hA, if_neg (fun h => h1 ⟨hA, h⟩)]
      by_cases hB : b = -1
      · rw [if_pos hB, e hB]
      · rw [if_neg hB]
    · rw [if_neg hA]
      by_cases hB : b = -1
      · rw [if_pos hB, e hB]
      · rw [if_neg hB]
  rw [key]
  simp only [mewsref24_times.j1, Bool.false_eq_true, if_false]
  obtain ⟨t, ht, w0, w1⟩ := wrap_split (a * b)
  have fw : fitsI (wrap64 (a * b)) = true := fitsI_iff.2 ⟨w0, w1⟩
  by_cases hA : a = -1
  · have hf : fitsI (a * b) = true := by subst hA; exact fitsI_iff.2 (by unfold lo63 hi63; omega)
    obtain ⟨q0, q1⟩ := fitsI_iff.1 hf
    have hw : wrap64 (a * b) = a * b := by unfold lo63 hi63 at *; unfold wrap64; omega
    exact ⟨_, by rw [if_pos hA, hf], fun _ => hw, fw⟩
  rw [if_neg hA]
  by_cases hB : b = -1
  · have hf : fitsI (a * b) = true := by subst hB; exact fitsI_iff.2 (by unfold lo63 hi63; omega)
    obtain ⟨q0, q1⟩ := fitsI_iff.1 hf
    have hw : wrap64 (a * b) = a * b := by unfold lo63 hi63 at *; unfold wrap64; omega
    exact ⟨_, by rw [if_pos hB, hf], fun _ => hw, fw⟩
  rw [if_neg hB, if_neg hb0]
  have hti := tdiv_in (n := wrap64 (a * b)) ⟨w0, w1⟩ hB
  have hwt : wrap64 ((wrap64 (a * b)).tdiv b) = (wrap64 (a * b)).tdiv b := by generalize (wrap64 (a * b)).tdiv b = z at *; unfold wrap64; omega
  rw [hwt]
  cases hf : fitsI (a * b) with
  | true =>
    obtain ⟨q0, q1⟩ := fitsI_iff.1 hf
    have hw : wrap64 (a * b) = a * b := by unfold lo63 hi63 at *; generalize a * b = z at *; unfold wrap64; omega
    rw [hw]
    have hd : (a * b).tdiv b = a := Int.mul_tdiv_cancel a hb0
    refine ⟨a * b, ?_, fun _ => rfl, hf⟩
    rw [if_pos hd]
    have hs : (decide (a * b < 0) == (decide (a < 0) != decide (b < 0))) = true := by
      by_cases sa : a < 0
      · by_cases sb : b < 0
        · have : 0 < a * b := Int.mul_pos_of_neg_of_neg sa sb
          simp [sa, sb]; omega
        · have : a * b < 0 := Int.mul_neg_of_neg_of_pos sa (by omega)
          simp [sa, sb, this]
      · by_cases sb : b < 0
        · have : a * b < 0 := Int.mul_neg_of_pos_of_neg (by omega) sb
          simp [sa, sb, this]
        · have : 0 < a * b := Int.mul_pos (by omega) (by omega)
          simp [sa, sb]; omega
    rw [hs]
  | false =>
    have ht0 : t ≠ 0 := fun h => by
      rw [h] at ht
      have : a * b = wrap64 (a * b) := by omega
      rw [this, fw] at hf
      cases hf
    have hne := tdiv_ne (n := wrap64 (a * b)) ⟨w0, w1⟩ hb0 ⟨b0, b1⟩ ht0 ht
    exact ⟨_, by rw [if_neg hne], fun h => by (cases h), fw⟩
/-- R.Add. -/
theorem rAdd_f {a b : Int} (ha : fitsI a = true) (hb : fitsI b = true) : mewsref01_Add.f a b = some (if fitsI (a + b) then a + b else 0, fitsI (a + b)) := by
  obtain ⟨a0, a1⟩ := fitsI_iff.1 ha
  obtain ⟨b0, b1⟩ := fitsI_iff.1 hb
  unfold lo63 hi63 at *
  unfold mewsref01_Add.f
  cases hf : fitsI (a + b) with
  | true =>
    obtain ⟨c0, c1⟩ := fitsI_iff.1 hf
    unfold lo63 hi63 at *
    have hw : wrap64 (a + b) = a + b := by unfold wrap64; omega
    rw [hw, if_pos rfl]
    by_cases h0 : b > 0
    · rw [if_pos h0, if_neg (by unfold wrap64; omega), if_neg (by omega)]
    · rw [if_neg h0]
      by_cases h1 : b < 0
      · rw [if_pos h1, if_neg (by unfold wrap64; omega)]
      · rw [if_neg h1]
  | false =>
    have hn : ¬ (-9223372036854775808 ≤ a + b ∧ a + b ≤ 9223372036854775807) := fun h => by rw [fitsI_iff.2 h] at hf; cases hf
    rw [show (if false = true then a + b else 0) = (0 : Int) from if_neg (by decide)]
    by_cases h0 : b > 0
    · rw [if_pos h0, if_pos (by unfold wrap64; omega)]
    · rw [if_neg h0, if_pos (by omega), if_pos (by unfold wrap64; omega)]
theorem mn_eq (a b : Int) : mn a b = min a b := by unfold mn; split <;> omega
theorem mx_eq (a b : Int) : mx a b = max a b := by unfold mx; split <;> omega
/-- The weight of the i-th list. -/
def pw (ws : List Int) (i : Nat) : Int := if i < ws.length then rd ws (i : Int) else 1
/-- A member's scores in the lists from the i-th on, with their weights. -/
def prsM (ws : List Int) (m : ByteArray) : Nat → List (List Sc) → List (Int × Int)
  | _, [] => []
  | i, l :: L => match findS l m with
    | some s => (s, pw ws i) :: prsM ws m (i + 1) L
    | none => prsM ws m (i + 1) L
theorem jn_min {how out : Int} {s w : Int} {T : List (Int × Int)} (h : how = 1) (f : fitsI (s * w) = true) : jnGo how out false ((s, w) :: T) = jnGo how (min out (s * w)) false T := by
  simp only [jnGo]; rw [if_pos f, if_neg (by decide), if_pos h]
theorem jn_max {how out : Int} {s w : Int} {T : List (Int × Int)} (h1 : ¬ how = 1) (h : how = 2) (f : fitsI (s * w) = true) : jnGo how out false ((s, w) :: T) = jnGo how (max out (s * w)) false T := by
  simp only [jnGo]; rw [if_pos f, if_neg (by decide), if_neg h1, if_pos h]
theorem jn_sum {how out : Int} {s w : Int} {T : List (Int × Int)} (h1 : ¬ how = 1) (h : ¬ how = 2) (f : fitsI (s * w) = true) : jnGo how out false ((s, w) :: T) = if fitsI (out + s * w) then jnGo how (out + s * w) false T else none := by
  simp only [jnGo]; rw [if_pos f, if_neg (by decide), if_neg h1, if_neg h]
theorem jn_first {how out : Int} {s w : Int} {T : List (Int × Int)} (f : fitsI (s * w) = true) : jnGo how out true ((s, w) :: T) = jnGo how (s * w) false T := by
  simp only [jnGo]; rw [if_pos f, if_pos trivial]
theorem jn_over {how out : Int} {b : Bool} {s w : Int} {T : List (Int × Int)} (f : fitsI (s * w) = false) : jnGo how out b ((s, w) :: T) = none := by
  simp only [jnGo]; rw [if_neg (by rw [f]; decide)]
/-- One step of the document's sum. -/
theorem one_step {X : Option (Int × Bool × Bool)} {inn fb ok : Bool} {G J : Option Int} (h : ∃ v, X = some (v, inn, (fb && ok) && G.isSome) ∧ ((fb && ok) = true → ∀ z, G = some z → v = z)) (h1 : ok = true → J = G) (h2 : ok = false → J = none) :
    ∃ v, X = some (v, inn, fb && J.isSome) ∧ (fb = true → ∀ z, J = some z → v = z) := by
  obtain ⟨v, e, hv⟩ := h
  refine ⟨v, ?_, fun hf z hz => ?_⟩
  · rw [e]
    cases ok with
    | true => rw [h1 rfl, Bool.and_true]
    | false => rw [h2 rfl]; simp
  · cases ok with
    | true => exact hv (by rw [hf]; rfl) z (by rw [← h1 rfl]; exact hz)
    | false => rw [h2 rfl] at hz; cases hz
theorem score_ge {l : List Sc} (m : ByteArray) (hs : l.length ≤ 1000000) {k : Nat} (hk : l.length < k) : mewsref24_Score.f k l m = some ((findS l m).getD 0, (findS l m).isSome) := by
  unfold mewsref24_Score.f
  have := score_l0 (m := m) hs l.length k 0 (by omega) (by omega) (by omega)
  simpa using this
theorem findS_fits {l : List Sc} {m : ByteArray} {s : Int} (h : ∀ x ∈ l, fitsI x.f1 = true) (e : findS l m = some s) : fitsI s = true := by
  unfold findS at e
  obtain ⟨x, hx, rfl⟩ := Option.map_eq_some_iff.1 e
  exact h x (List.mem_of_find?_eq_some hx)
theorem pw_fits {ws : List Int} (h : ∀ x ∈ ws, fitsI x = true) (i : Nat) : fitsI (pw ws i) = true := by
  unfold pw
  split
  · rename_i hi; exact rd_fits h hi
  · decide
theorem min_fits {a b : Int} (ha : fitsI a = true) (hb : fitsI b = true) : fitsI (min a b) = true := fitsI_iff.2 (by have := fitsI_iff.1 ha; have := fitsI_iff.1 hb; omega)
theorem max_fits {a b : Int} (ha : fitsI a = true) (hb : fitsI b = true) : fitsI (max a b) = true := fitsI_iff.2 (by have := fitsI_iff.1 ha; have := fitsI_iff.1 hb; omega)
theorem band_if (x : Bool) {α : Type} (f : Bool → α) (y : Bool) : (if x = true then f y else f false) = f (x && y) := by cases x <;> simp
set_option maxHeartbeats 4000000 in
/-- R.one, from the i-th list on. -/
theorem one_l0 {all : Bool} {how : Int} {ws : List Int} {L : List (List Sc)} {m : ByteArray} {M : Nat} (hL : L.length ≤ 1000000) (hM : ∀ l ∈ L, l.length ≤ M) (hM2 : M ≤ 1000000) (hs : ∀ l ∈ L, ∀ x ∈ l, fitsI x.f1 = true) (hw : ∀ x ∈ ws, fitsI x = true) :
    ∀ (d k i : Nat) (out : Int) (met : Nat) (fb : Bool), L.length - i = d → 2 * d + M + 4 ≤ k → i ≤ L.length → met ≤ i → fitsI out = true →
    ∃ v, mewsref24_one.l0 k all how ws L m out (met : Int) fb (i : Int) = some (v, (!all || decide (met + (prsM ws m i (L.drop i)).length = L.length)), fb && (jnGo how out (decide (met = 0)) (prsM ws m i (L.drop i))).isSome) ∧
      (fb = true → ∀ z, jnGo how out (decide (met = 0)) (prsM ws m i (L.drop i)) = some z → v = z) := by
  intro d
  induction d with
  | zero =>
    intro k i out met fb hd hk hi hm ho
    obtain ⟨k, rfl⟩ : ∃ k', k = k' + 1 := ⟨k - 1, by omega⟩
    have hie : i = L.length := by omega
    subst hie
    rw [List.drop_length]
    simp only [mewsref24_one.l0, prsM, jnGo, List.length_nil, Nat.add_zero]
    rw [if_neg (by omega)]
    refine ⟨out, ?_, fun _ z hz => by injection hz⟩
    cases all with
    | true =>
      rw [if_pos rfl]
      by_cases h : met = L.length
      · simp [h]
      · have e : (((met : Nat) : Int) == ((L.length : Nat) : Int)) = false := by rw [beq_eq_false_iff_ne]; omega
        simp [h, e]
    | false => rw [if_neg (by decide)]; simp
  | succ d ih =>
    intro k i out met fb hd hk hi hm ho
    obtain ⟨k, rfl⟩ : ∃ k', k = k' + 1 := ⟨k - 1, by omega⟩
    have hlt : i < L.length := by omega
    have hdr : L.drop i = L[i] :: L.drop (i + 1) := List.drop_eq_getElem_cons hlt
    have hmem : L[i] ∈ L := List.getElem_mem hlt
    have hrd : rd_L3 L (i : Int) = L[i] := by unfold rd_L3; simp [List.getD_eq_getElem?_getD, hlt]
    have hwi : wrap64 ((i : Int) + 1) = ((i + 1 : Nat) : Int) := by unfold wrap64; omega
    have hwm : wrap64 ((met : Int) + 1) = ((met + 1 : Nat) : Int) := by unfold wrap64; omega
    rw [hdr]
    simp only [mewsref24_one.l0]
    rw [if_pos (by omega), if_pos (by omega), hrd, score_ge m (Nat.le_trans (hM _ hmem) hM2) (by have := hM _ hmem; omega)]
    simp only [Option.bind_some]
    cases hf : findS L[i] m with
    | none =>
      simp only [Option.isSome_none, Bool.false_eq_true, if_false, Option.getD_none, prsM, hf, hwi]
      exact ih k (i + 1) out met fb (by omega) (by omega) (by omega) (by omega) ho
    | some s =>
      have hfs := findS_fits (hs _ hmem) hf
      have hfw := pw_fits hw i
      have hwe : (if (i : Int) < (ws.length : Int) then mewsref24_one.j1 k all how ws L m out (met : Int) fb (i : Int) s (rd ws (i : Int)) else mewsref24_one.j1 k all how ws L m out (met : Int) fb (i : Int) s 1) = mewsref24_one.j1 k all how ws L m out (met : Int) fb (i : Int) s (pw ws i) := by
        unfold pw
        by_cases h : i < ws.length
        · rw [if_pos h, if_pos (by omega)]
        · rw [if_neg h, if_neg (by omega)]
      simp only [Option.isSome_some, if_true, Option.getD_some, prsM, hf]
      rw [hwe]
      generalize pw ws i = wt at *
      obtain ⟨k, rfl⟩ : ∃ k', k = k' + 1 := ⟨k - 1, by omega⟩
      obtain ⟨k2, hk2⟩ : ∃ k2, k = k2 + 2 := ⟨k - 2, by omega⟩
      obtain ⟨x, hx, hxe, hxf⟩ := rtimes_f k2 hfs hfw
      simp only [mewsref24_one.j1]
      rw [show mewsref24_times.f k s wt = some (x, fitsI (s * wt)) by rw [hk2]; exact hx]
      simp only [Option.bind_some, hwi, hwm]
      have hB : ∀ (o : Int) (z : Bool), (if fb = true then mewsref24_one.l0 k all how ws L m o ((met + 1 : Nat) : Int) z ((i + 1 : Nat) : Int) else mewsref24_one.l0 k all how ws L m o ((met + 1 : Nat) : Int) false ((i + 1 : Nat) : Int)) = mewsref24_one.l0 k all how ws L m o ((met + 1 : Nat) : Int) (fb && z) ((i + 1 : Nat) : Int) := fun o z => by cases fb <;> simp
      generalize hT : prsM ws m (i + 1) (L.drop (i + 1)) = T
      have hlen : met + ((s, wt) :: T).length = met + 1 + T.length := by simp only [List.length_cons]; omega
      rw [hlen]
      have hd1 : decide (met + 1 = 0) = false := by simp
      have IH := fun (o : Int) (z : Bool) (ho : fitsI o = true) => ih k (i + 1) o (met + 1) z (by omega) (by omega) (by omega) (by omega) ho
      rw [hT, hd1] at IH
      clear ih
      by_cases hm0 : met = 0
      · rw [if_pos (by omega), hB, decide_eq_true hm0]
        exact one_step (IH x _ hxf) (fun h => by rw [jn_first h, hxe h]) (fun h => jn_over h)
      · rw [if_neg (by omega), decide_eq_false hm0]
        by_cases h1 : how = 1
        · rw [if_pos h1, hB, mn_eq]
          exact one_step (IH (min out x) _ (min_fits ho hxf)) (fun h => by rw [jn_min h1 h, hxe h]) (fun h => jn_over h)
        · rw [if_neg h1]
          by_cases h2 : how = 2
          · rw [if_pos h2, hB, mx_eq]
            exact one_step (IH (max out x) _ (max_fits ho hxf)) (fun h => by rw [jn_max h1 h2 h, hxe h]) (fun h => jn_over h)
          · rw [if_neg h2, rAdd_f ho hxf]
            simp only [Option.bind_some, hB]
            have hy : fitsI (if fitsI (out + x) = true then out + x else 0) = true := by
              split
              · rename_i h; exact h
              · decide
            generalize hyy : (if fitsI (out + x) = true then out + x else 0) = y at *
            cases hxo : fitsI (s * wt) with
            | true =>
              rw [if_pos rfl]
              refine one_step (ok := fitsI (out + x)) (IH y _ hy) (fun h => ?_) (fun h => ?_)
              · rw [jn_sum h1 h2 hxo, ← hxe hxo, if_pos h, ← hyy, if_pos h]
              · rw [jn_sum h1 h2 hxo, ← hxe hxo, if_neg (by rw [h]; decide)]
            | false =>
              rw [if_neg (by decide)]
              exact one_step (ok := false) (IH y _ hy) (fun h => by cases h) (fun _ => jn_over hxo)
end Go.Sl
/-! ### Jr -/
namespace Go.Sl
open Go.RowKit Go.Proofs Go.Proofs.YteakblblpiihpaaW.PrintWords Go.Proofs.Yteakblblpiihpaa.PZs
set_option linter.unusedVariables false
set_option linter.unusedSimpArgs false
set_option maxRecDepth 100000

/-- Is a member in the result? -/
def inJ (all : Bool) (ws : List Int) (L : List (List Sc)) (m : ByteArray) : Bool := !all || decide ((prsM ws m 0 L).length = L.length)
def scJ (how : Int) (ws : List Int) (L : List (List Sc)) (m : ByteArray) : Option Int := jnGo how 0 true (prsM ws m 0 L)
/-- The document's list, member by member. -/
def joinF (all : Bool) (how : Int) (ws : List Int) (L : List (List Sc)) : List Sc → List Sc → Option (List Sc)
  | [], out => some out
  | x :: T, out =>
    if (findS out x.f0).isSome then joinF all how ws L T out
    else if inJ all ws L x.f0 then
      match scJ how ws L x.f0 with
      | some z => joinF all how ws L T (insS out ⟨x.f0, z⟩)
      | none => none
    else joinF all how ws L T out
/-- R.one. -/
theorem rOne {w : World} {A2 A3 : Option Addr} {c2 c3 : Nat} {all : Bool} {how : Int} {ws : List Int} {L : List (List Sc)} {m : ByteArray} (hL : L.length ≤ 1000000) (hM : ∀ l ∈ L, l.length ≤ 1000000) (hs : ∀ l ∈ L, ∀ x ∈ l, fitsI x.f1 = true) (hw : ∀ x ∈ ws, fitsI x = true)
    (h2 : Kd.C (Kd.int .i64) w A2 ws.length ws) (hc2 : ws.length ≤ c2) (h3 : Kd.C (Kd.slice 30 k30) w A3 L.length L) (hc3 : L.length ≤ c3) :
    Calls Try.prog 60 #[.bool all, .int .i64 how, .slice A2 ws.length c2, .slice A3 L.length c3, .string m] w fun e w' => ∃ v, e = .returned (.tuple #[.int .i64 v, .bool (inJ all ws L m), .bool (scJ how ws L m).isSome]) ∧ (∀ z, scJ how ws L m = some z → v = z) ∧ Below w.heap.size w w' := by
  obtain ⟨v, e, hv⟩ := one_l0 (all := all) (how := how) (ws := ws) (L := L) (m := m) (M := 1000000) hL hM (Nat.le_refl _) hs hw L.length (2 * L.length + 1000000 + 4) 0 0 0 true (by omega) (Nat.le_refl _) (by omega) (Nat.le_refl _) (by decide)
  rw [List.drop_zero] at e hv
  have e2 : mewsref24_one.f (2 * L.length + 1000000 + 4) all how ws L m = some (v, inJ all ws L m, (scJ how ws L m).isSome) := by
    unfold mewsref24_one.f inJ scJ
    have := e
    simp only [Nat.zero_add, Bool.true_and] at this
    exact this
  refine (mewsref24_one.calls _ all how A2 c2 ws A3 c3 L m _ _ _ w h2 hc2 h3 hc3 e2).mono ?_
  rintro en w' ⟨rfl, hb⟩
  exact ⟨v, rfl, fun z hz => hv rfl z hz, hb⟩
theorem joinF_has {all : Bool} {how : Int} {ws : List Int} {L : List (List Sc)} {x : Sc} {T out : List Sc} (h : (findS out x.f0).isSome = true) : joinF all how ws L (x :: T) out = joinF all how ws L T out := by
  simp only [joinF]; rw [if_pos h]
theorem joinF_out {all : Bool} {how : Int} {ws : List Int} {L : List (List Sc)} {x : Sc} {T out : List Sc} (h : (findS out x.f0).isSome = false) (hi : inJ all ws L x.f0 = false) : joinF all how ws L (x :: T) out = joinF all how ws L T out := by
  simp only [joinF]; rw [if_neg (by rw [h]; decide), if_neg (by rw [hi]; decide)]
theorem joinF_in {all : Bool} {how : Int} {ws : List Int} {L : List (List Sc)} {x : Sc} {T out : List Sc} {z : Int} (h : (findS out x.f0).isSome = false) (hi : inJ all ws L x.f0 = true) (hz : scJ how ws L x.f0 = some z) : joinF all how ws L (x :: T) out = joinF all how ws L T (insS out ⟨x.f0, z⟩) := by
  simp only [joinF]; rw [if_neg (by rw [h]; decide), if_pos hi, hz]
theorem joinF_over {all : Bool} {how : Int} {ws : List Int} {L : List (List Sc)} {x : Sc} {T out : List Sc} (h : (findS out x.f0).isSome = false) (hi : inJ all ws L x.f0 = true) (hz : scJ how ws L x.f0 = none) : joinF all how ws L (x :: T) out = none := by
  simp only [joinF]; rw [if_neg (by rw [h]; decide), if_pos hi, hz]
theorem find_none_ne {l : List Sc} {m : ByteArray} (h : (findS l m).isSome = false) : ∀ y ∈ l, y.f0 ≠ m := fun y hy e => by
  unfold findS at h
  rw [Option.isSome_map, Option.isSome_eq_false_iff, Option.isNone_iff_eq_none, List.find?_eq_none] at h
  exact h y hy (by simpa using e)
set_option maxHeartbeats 16000000 in
/-- 'R.Join'. -/
theorem rJoin {w0 w : World} {A2 A3 : Option Addr} {c2 c3 : Nat} {all : Bool} {how : Int} {ws : List Int} {L : List (List Sc)} {R : HP} (hL : L.length ≤ 1000) (hM : ∀ l ∈ L, l.length ≤ 100) (hs : ∀ l ∈ L, ∀ x ∈ l, fitsI x.f1 = true ∧ x.f0.size ≤ maxLen) (hw : ∀ x ∈ ws, fitsI x = true)
    (h2 : ∀ Z w', Sat w0 w' (Z * R) → Kd.C (Kd.int .i64) w' A2 ws.length ws) (hc2 : ws.length ≤ c2) (h3 : ∀ Z w', Sat w0 w' (Z * R) → Kd.C (Kd.slice 30 k30) w' A3 L.length L) (hc3 : L.length ≤ c3) (S : Sat w0 w R) :
    Calls Try.prog 36 #[.bool all, .int .i64 how, .slice A2 ws.length c2, .slice A3 L.length c3] w fun en w' => ∃ v, en = .returned (.tuple #[v, .int .i64 (if (joinF all how ws L L.flatten []).isSome then 0 else 13)]) ∧ Sat w0 w' (rS v ((joinF all how ws L L.flatten []).getD []) * R) := by
  obtain ⟨J, hJ⟩ : ∃ J, J = joinF all how ws L L.flatten [] := ⟨_, rfl⟩
  rw [← hJ]
  have HJ0 : Hid (joinF all how ws L (L.drop 0).flatten [] = J) := Lib.hid hJ.symm
  have HL := Lib.hid hL
  have HM := Lib.hid hM
  have HSX := Lib.hid hs
  have HWS := Lib.hid hw
  have H2 := Lib.hid h2
  have H3 := Lib.hid h3
  have HC2 := Lib.hid hc2
  have HC3 := Lib.hid hc3
  have HS : Hid (Sat w0 w (rS (.slice none 0 0) [] * R)) := Lib.hid (S.row_nil _ _)
  obtain ⟨er, her⟩ : ∃ er : Int, er = if J.isSome then 0 else 13 := ⟨_, rfl⟩
  rw [← her]
  have HER := Lib.hid her
  clear hL hM hs hw h2 h3 hc2 hc3 hJ S her
  go_enter Try.func36, Try.ntmps36
  go_wp2_with fail
  go_loopw [10, 11] (fun v10 v11 wr => ∃ (i : Nat) (out : List Sc) (A : Option Addr) (c : Nat), v11 = .int .i64 i ∧ v10 = .slice A out.length c ∧ i ≤ L.length ∧ Hid (ZOk out) ∧ Hid (out.length ≤ 100 * i) ∧ Hid (joinF all how ws L (L.drop i).flatten out = J) ∧ Hid (Sat w0 wr (rS (.slice A out.length c) out * R))) (fun _ v11 _ => L.length - (RowKit.intOf v11).toNat)
  case atStart => exact ⟨0, [], none, 0, rfl, rfl, by omega, Lib.hid zok_nil, Lib.hid (by simp), HJ0, HS⟩
  case round =>
    clear HS HJ0
    obtain ⟨i, out, A, c, rfl, rfl, hi, HZ, HN, HJ, HSi⟩ := hrel
    by_cases hlt : i < L.length
    · have hwi := wrap_upZ hlt (show L.length ≤ 9223372036854775807 by have := HL.out; omega)
      have hdr : L.drop i = L[i] :: L.drop (i + 1) := List.drop_eq_getElem_cons hlt
      have HJ2 : Hid (joinF all how ws L (L[i].drop 0 ++ (L.drop (i + 1)).flatten) out = J) := Lib.hid (by have := HJ.out; rw [hdr, List.flatten_cons] at this; exact this)
      have hrd : rd_L3 L (i : Int) = L[i] := by unfold rd_L3; simp [List.getD_eq_getElem?_getD, hlt]
      have HRD := Lib.hid hrd
      have HMEM := Lib.hid (List.getElem_mem hlt)
      clear hdr hrd
      go_wp2_with fail
      go_loopw [10, 12] (fun v10 v12 wy => ∃ (k : Nat) (out : List Sc) (A : Option Addr) (c : Nat), v12 = .int .i64 k ∧ v10 = .slice A out.length c ∧ k ≤ L[i].length ∧ Hid (ZOk out) ∧ Hid (out.length ≤ 100 * i + k) ∧ Hid (joinF all how ws L (L[i].drop k ++ (L.drop (i + 1)).flatten) out = J) ∧ Hid (Sat w0 wy (rS (.slice A out.length c) out * R))) (fun _ v12 _ => L[i].length - (RowKit.intOf v12).toNat)
      case atStart => exact ⟨0, out, A, c, rfl, rfl, by omega, HZ, Lib.hid (by have := HN.out; omega), HJ2, HSi⟩
      case round =>
        clear HZ HN HJ HSi HJ2
        obtain ⟨k, out, A, c, rfl, rfl, hk, HZ, HN, HJ, HSi⟩ := hrel
        obtain ⟨ad, B, d, e1, x0, hdl, hB⟩ := at_L3 (H3.out _ _ HSi.out) (i : Int) (by omega) (by omega)
        subst e1
        rw [HRD.out, Int.toNat_natCast] at x0
        rw [HRD.out] at hdl hB
        obtain ⟨li, hli⟩ : ∃ li, li = L[i] := ⟨_, rfl⟩
        have HMI := HMEM.out
        rw [← hli] at x0 hdl hB hk HJ HMI ⊢
        have HMI := Lib.hid HMI
        have HLI := Lib.hid hli
        clear hli
        by_cases hk2 : k < li.length
        · have hli100 := HM.out _ HMI.out
          have hwk := wrap_upZ hk2 (show li.length ≤ 9223372036854775807 by omega)
          obtain ⟨ae, e2, y0, y1⟩ := argZ hB (Below.refl _ _) hk2
          subst e2
          obtain ⟨x, hx⟩ : ∃ x, x = li[k] := ⟨_, rfl⟩
          rw [← hx] at y0 y1
          have HJ2 : Hid (joinF all how ws L (x :: (li.drop (k + 1) ++ (L.drop (i + 1)).flatten)) out = J) := Lib.hid (by
            have := HJ.out
            rw [List.drop_eq_getElem_cons hk2, ← hx, List.cons_append] at this
            exact this)
          have HXS : Hid (x.f0.size ≤ maxLen) := Lib.hid (by rw [hx]; exact (HSX.out _ HMI.out _ (List.getElem_mem hk2)).2)
          have HB2 : Hid (out.length ≤ 1000000) := Lib.hid HZ.out.big
          clear hx hli100 hdl
          go_wp2_with fail
          refine (rScore24 HB2.out HSi.out).mono ?_
          rintro en w2 ⟨rfl, S2⟩
          unfold scoreV
          have HS2 := Lib.hid S2
          obtain ⟨ad', B', d', e1, x0', -, -⟩ := at_L3 (H3.out _ _ S2) (i : Int) (by omega) (by omega)
          clear S2 HSi
          cases hf : (findS out x.f0).isSome with
          | true =>
            have HJ3 : Hid (joinF all how ws L (li.drop (k + 1) ++ (L.drop (i + 1)).flatten) out = J) := Lib.hid (by rw [← joinF_has (x := x) hf]; exact HJ2.out)
            generalize (findS out x.f0).getD 0 = sv at *
            clear hf x0 y0 y1 x0' e1
            go_wp2_with fail
            go_roundw
            case rel => exact ⟨k + 1, out, A, c, by rw [hwk], rfl, by omega, HZ, Lib.hid (by have := HN.out; omega), HJ3, HS2⟩
            case measure => rw [hwk]; simp only [RowKit.intOf, Int.toNat_natCast]; omega
          | false =>
            have HF := Lib.hid hf
            generalize (findS out x.f0).getD 0 = sv at *
            clear hf x0 y0 y1 x0' e1
            go_wp2_with fail
            refine (rOne (by have := HL.out; omega) (fun l hl => Nat.le_trans (HM.out l hl) (by decide)) (fun l hl y hy => (HSX.out l hl y hy).1) HWS.out (H2.out _ _ HS2.out) HC2.out (H3.out _ _ HS2.out) HC3.out).mono ?_
            rintro en w3 ⟨v, rfl, hv, hb⟩
            have HS3 := Lib.hid (HS2.out.below hb)
            have HV := Lib.hid hv
            clear hb hv HS2
            cases hin : inJ all ws L x.f0 with
            | false =>
              have HJ3 : Hid (joinF all how ws L (li.drop (k + 1) ++ (L.drop (i + 1)).flatten) out = J) := Lib.hid (by rw [← joinF_out (x := x) HF.out hin]; exact HJ2.out)
              generalize (scJ how ws L x.f0).isSome = sk at *
              clear hin
              go_wp2_with fail
              go_roundw
              case rel => exact ⟨k + 1, out, A, c, by rw [hwk], rfl, by omega, HZ, Lib.hid (by have := HN.out; omega), HJ3, HS3⟩
              case measure => rw [hwk]; simp only [RowKit.intOf, Int.toNat_natCast]; omega
            | true =>
              cases hsc : scJ how ws L x.f0 with
              | none =>
                have HE : Hid (J = none) := Lib.hid (by rw [← HJ2.out]; exact joinF_over HF.out hin hsc)
                have HSN : Hid (Sat w0 w3 (rS (.slice none 0 0) [] * R)) := Lib.hid (HS3.out.drop1.row_nil _ _)
                clear hin hsc HV
                simp only [Option.isSome_none]
                go_wp2_with fail
                go_ret2
                exact ⟨_, by rw [HER.out, HE.out]; rfl, by rw [HE.out]; exact HSN.out⟩
              | some z =>
                have hvz : v = z := HV.out z hsc
                have HJ3 : Hid (joinF all how ws L (li.drop (k + 1) ++ (L.drop (i + 1)).flatten) (insS out ⟨x.f0, z⟩) = J) := Lib.hid (by rw [← joinF_in (x := x) HF.out hin hsc]; exact HJ2.out)
                have HNE := Lib.hid (find_none_ne HF.out)
                have hol : out.length < 1000000 := by have := HN.out; have := HL.out; have := HM.out _ HMI.out; omega
                have HOL := Lib.hid hol
                have HZ2 : Hid (ZOk (insS out ⟨x.f0, z⟩)) := Lib.hid (ins_ok HZ.out HNE.out HXS.out hol)
                have HN2 : Hid ((insS out ⟨x.f0, z⟩).length ≤ 100 * i + (k + 1)) := Lib.hid (by rw [(ins_perm_S _ _).length_eq, List.length_cons]; have := HN.out; omega)
                subst hvz
                clear hin hsc hol HV
                simp only [Option.isSome_some]
                have hput := rZPut (x := ⟨x.f0, v⟩) HZ.out.ord HOL.out HNE.out HS3.out
                go_wp2_with fail
                refine hput.mono ?_
                clear hput
                rintro en w4 ⟨u, rfl, S4⟩
                generalize insS out ⟨x.f0, v⟩ = out2 at *
                obtain ⟨A4, c4, rfl, -, -⟩ := Sat.row_C flatS rfl S4
                have HS4 := Lib.hid S4
                clear S4 HS3
                go_wp2_with fail
                go_roundw
                case rel => exact ⟨k + 1, out2, A4, c4, by rw [hwk], rfl, by omega, HZ2, HN2, HJ3, HS4⟩
                case measure => rw [hwk]; simp only [RowKit.intOf, Int.toNat_natCast]; omega
        · have hke : k = li.length := by omega
          subst hke
          have HJ3 : Hid (joinF all how ws L (L.drop (i + 1)).flatten out = J) := Lib.hid (by
            have := HJ.out
            rw [List.drop_length, List.nil_append] at this
            exact this)
          have hli100 := HM.out _ HMI.out
          go_wp2_with fail
          go_roundw
          case rel => exact ⟨i + 1, out, A, c, by rw [hwi], rfl, by omega, HZ, Lib.hid (by have := HN.out; omega), HJ3, HSi⟩
          case measure => rw [hwi]; simp only [RowKit.intOf, Int.toNat_natCast]; omega
    · have hie : i = L.length := by omega
      subst hie
      have HE : Hid (J = some out) := Lib.hid (by
        have := HJ.out
        rw [List.drop_length] at this
        exact this.symm)
      go_wp2_with fail
      go_ret2
      exact ⟨_, by rw [HER.out, HE.out]; rfl, by rw [HE.out]; exact HSi.out⟩
end Go.Sl
/-! ### SoK -/
namespace Go.Sl
open Go.RowKit Go.Proofs Go.Sort Go.Proofs.YteakblblpiihpaaW.PrintWords
set_option linter.unusedVariables false
set_option linter.unusedSimpArgs false
section
variable {α : Type} [Inhabited α] {dd : Kd α} {enc : α → List Value} {w0 w : World} {e g cap n : Nat} {R : HP}
theorem flatK_list (F : Flat dd enc) (d : Array α) : (flatK enc dd.sz d).toList = d.toList.flatMap enc := by
  have hl : (d.toList.flatMap enc).length = d.size * dd.sz := by rw [flat_length F]; simp
  refine List.ext_getElem (by rw [hl]; simp) fun t h1 h2 => ?_
  have ht : t < d.size * dd.sz := by rw [hl] at h2; exact h2
  have h0 := F.pos
  have hj : t / dd.sz < d.size := Nat.div_lt_of_lt_mul (by rw [Nat.mul_comm]; exact ht)
  have hi : t % dd.sz < dd.sz := Nat.mod_lt _ h0
  have hx : (enc d[t / dd.sz])[t % dd.sz]? = some ((enc d[t / dd.sz])[t % dd.sz]'(by rw [F.len]; exact hi)) := List.getElem?_eq_getElem _
  have hc := flat_cell F (xs := d.toList) (j := t / dd.sz) (i := t % dd.sz) (by simp [hj]) hx
  rw [Nat.mul_comm, Nat.div_add_mod] at hc
  rw [List.getElem?_eq_getElem h2] at hc
  injection hc with hc
  rw [hc]
  have h3 := get_flatK enc dd.sz d t ht
  rw [getElem!_pos _ t (by simpa using ht), getElem!_pos d _ hj, getElem!_pos _ _ (by rw [F.len]; exact hi)] at h3
  rw [Array.getElem_toList]
  exact h3
theorem Sat.row_holdsK (F : Flat dd enc) {d : Array α} (S : Sat w0 w (row e dd.sz (.slice (some ⟨g, 0, none⟩) d.size cap) d.size (d.toList.flatMap enc) * R)) : HoldsK enc dd.sz w g 0 d := by
  intro j hj
  rw [size_flatK] at hj
  have hl : (d.toList.flatMap enc).length = d.size * dd.sz := by rw [flat_length F]; simp
  have e2 := flatK_list F d
  have hv : (d.toList.flatMap enc)[j]? = some (flatK enc dd.sz d)[j]! := by
    rw [← e2, getElem!_pos _ j (by simpa using hj)]
    simp [hj]
  obtain ⟨g', e1, hc⟩ := S.row_cells j _ hv
  injection e1 with e1
  injection e1 with e1
  subst e1
  rw [Nat.zero_add]
  refine ⟨hc, ?_⟩
  obtain ⟨_, h⟩ := S.row_open
  rcases h with ⟨h0, _⟩ | ⟨g2, cap2, cur, hv, _, _, _, _, S1⟩
  · cases h0
  · injection hv with hv
    injection hv with hv
    injection hv with hv
    subst hv
    exact frz_of S1.blk j
/-- The row rewritten; draws; blocks of the sort's own. -/
theorem Sat.row_worldK (F : Flat dd enc) {xs : List Value} {d : Array α} (S : Sat w0 w (row e dd.sz (.slice (some ⟨g, 0, none⟩) d.size cap) d.size xs * R)) (m : Nat) (os : Array Obj) :
    Sat w0 (sortWorldK enc dd.sz w g 0 m d os) (row e dd.sz (.slice (some ⟨g, 0, none⟩) d.size cap) d.size (d.toList.flatMap enc) * R) := by
  obtain ⟨hl, h⟩ := S.row_open
  rcases h with ⟨h0, _⟩ | ⟨g2, cap2, cur, hv, hn, hm, hs, ht, S1⟩
  · cases h0
  · injection hv with hv h2 h3
    injection hv with hv
    injection hv with hv
    subst hv h3
    obtain ⟨G, hG⟩ : ∃ G : Array Value, G = flatK enc dd.sz d := ⟨_, rfl⟩
    have hGs : G.size = d.size * dd.sz := by rw [hG, size_flatK]
    have hle : d.size * dd.sz ≤ cap * dd.sz := Nat.mul_le_mul_right _ hn
    have hcs : (putCells id 0 G cur).size = cap * dd.sz := by simp [putCells, hs]
    have htk : (putCells id 0 G cur).toList.take (d.size * dd.sz) = d.toList.flatMap enc := by
      rw [← flatK_list F d, ← hG]
      refine List.ext_getElem (by rw [List.length_take, Array.length_toList, hcs, Array.length_toList, hGs]; exact Nat.min_eq_left hle) fun j h1 h2 => ?_
      have hj : j < G.size := by simpa using h2
      simp [putCells, hj, getElem!_pos G j hj]
    have S2 : Sat w0 (putRowK enc dd.sz (Sort.ahead w m) g 0 d) (pts g (.cells (putCells id 0 G cur) e (0, 0)) * R) := by
      rw [hG]
      refine S1.put rfl rfl rfl (by simp [putRowK, putRow, mapBlock, Sort.ahead]) ?_ ?_
      · simp only [putRowK, putRow, mapBlock, Sort.ahead, Array.getElem?_modify, if_true]
        rw [S1.blk]; rfl
      · intro k hk hne
        simp only [putRowK, putRow, mapBlock, Sort.ahead, Array.getElem?_modify]
        rw [if_neg (fun e => hne e.symm)]
    have hb : Below (putRowK enc dd.sz (Sort.ahead w m) g 0 d).heap.size (putRowK enc dd.sz (Sort.ahead w m) g 0 d) (sortWorldK enc dd.sz w g 0 m d os) :=
      ⟨rfl, rfl, rfl, by simp [sortWorldK, grow], fun k hk => by simp only [sortWorldK, grow]; rw [Array.getElem?_append_left hk]⟩
    exact (Sat.row_shut (by rw [flat_length F]; simp) hn hm hcs htk S2).below hb
end
end Go.Sl
