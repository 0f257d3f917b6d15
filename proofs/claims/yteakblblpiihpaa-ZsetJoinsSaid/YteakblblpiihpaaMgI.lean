/-
  zset.joined: a member's score of several.
  zset.Join, its sums: times, joined, num.Add; the document's times, Add.
-/
import Derived.Test.YteakblblpiihpaaProg
import Derived.WalkKit
import Derived.WalkSpells
import Derived.KernelRfl
import Derived.Lib.Hide
import Derived.Shelf.Bits.Mul64
import Derived.Deep.RegionHeld3
import Derived.Deep.DrawnRows
import Derived.Test.YteakblblpiihpaaPZsx4
import Derived.Deep.RegionWith
/-! ### Jn -/
namespace Go.Sl
open Go.RowKit Go.Proofs
set_option linter.unusedVariables false
set_option linter.unusedSimpArgs false
set_option maxRecDepth 100000

set_option maxHeartbeats 2000000 in
/-- 'bits.Mul64'. -/
theorem mul64 (x y : Nat) (hx : x < 18446744073709551616) (hy : y < 18446744073709551616) (w : World) :
    Calls Try.prog 97 #[.int .u64 x, .int .u64 y] w fun e w' => e = .returned (.tuple #[.int .u64 ((x * y / 18446744073709551616 : Nat) : Int), .int .u64 ((x * y % 18446744073709551616 : Nat) : Int)]) ∧ w' = w := by
  obtain ⟨bd, bt, bw, hhi⟩ := Lib.mul64_hi x y hx hy
  have ba := Lib.half_mul_le (a := x / 4294967296) (b := y / 4294967296) (by omega) (by omega)
  have bb := Lib.half_mul_le (a := x / 4294967296) (b := y % 4294967296) (by omega) (by omega)
  have bc := Lib.half_mul_le (a := x % 4294967296) (b := y / 4294967296) (by omega) (by omega)
  have ba' : x / 4294967296 * (y / 4294967296) < 18446744073709551616 := by omega
  have bb' : x / 4294967296 * (y % 4294967296) < 18446744073709551616 := by omega
  have bc' : x % 4294967296 * (y / 4294967296) < 18446744073709551616 := by omega
  have bh1 : x / 4294967296 * (y / 4294967296) + (x / 4294967296 * (y % 4294967296) + x % 4294967296 * (y % 4294967296) / 4294967296) / 4294967296 < 18446744073709551616 := by omega
  have bh : x / 4294967296 * (y / 4294967296) + (x / 4294967296 * (y % 4294967296) + x % 4294967296 * (y % 4294967296) / 4294967296) / 4294967296 + ((x / 4294967296 * (y % 4294967296) + x % 4294967296 * (y % 4294967296) / 4294967296) % 4294967296 + x % 4294967296 * (y / 4294967296)) / 4294967296 < 18446744073709551616 := by omega
  go_enter Try.func97, Try.ntmps97
  go_wp2
  simp only [Mul64.maskN x hx, Mul64.maskN y hy, Mul64.divN, Mul64.mulN, Mul64.addN, Mul64.wrapN _ bd, Mul64.wrapN _ bb', Mul64.wrapN _ bt, Mul64.maskN _ bt, Mul64.wrapN _ bc', Mul64.wrapN _ bw, Mul64.wrapN _ ba', Mul64.wrapN _ bh1, Mul64.wrapN _ bh, Mul64.wrapM (x * y)]
  rw [hhi]
  go_ret2
  exact ⟨rfl, rfl⟩
abbrev lo63 : Int := -9223372036854775808
abbrev hi63 : Int := 9223372036854775807
/-- Is there room for it? -/
def fitsI (n : Int) : Bool := decide (lo63 ≤ n) && decide (n ≤ hi63)
theorem fitsI_iff {n : Int} : fitsI n = true ↔ lo63 ≤ n ∧ n ≤ hi63 := by unfold fitsI; simp
/-- 'size', of times: what a number is without its sign. -/
theorem sizeJ (n : Int) (h0 : lo63 ≤ n) (h1 : n ≤ hi63) (w : World) :
    Calls Try.prog 96 #[.int .i64 n] w fun e w' => e = .returned (.int .u64 (n.natAbs : Int)) ∧ w' = w := by
  by_cases hn : n < 0
  · have hd : decide (n < 0) = true := decide_eq_true hn
    have hw : IntKind.u64.wrap (-(IntKind.u64.wrap n)) = (n.natAbs : Int) := by
      rw [IntKind.wrap_u64, IntKind.wrap_u64]; unfold lo63 hi63 at *; omega
    have HW := Lib.hid hw
    clear hn hw h0 h1
    go_enter Try.func96, Try.ntmps96
    go_wp2_with fail
    try rw [HW.out]
    go_ret
    exact ⟨by first | rfl | (simp only [HW.out]; rfl) | (rw [← HW.out]; rfl), rfl⟩
  · have hd : decide (n < 0) = false := decide_eq_false hn
    have hw : IntKind.u64.wrap n = (n.natAbs : Int) := by
      rw [IntKind.wrap_u64]; unfold lo63 hi63 at *; omega
    have HW := Lib.hid hw
    clear hn hw h0 h1
    go_enter Try.func96, Try.ntmps96
    go_wp2_with fail
    go_ret
    exact ⟨by first | rfl | (simp only [HW.out]; rfl) | (rw [← HW.out]; rfl), rfl⟩
set_option maxHeartbeats 4000000 in
/-- 'times', behind the parts: H and L are the product's halves. -/
theorem timesJ {a b : Int} (ha : fitsI a = true) (hb : fitsI b = true) (w : World) :
    Calls Try.prog 77 #[.int .i64 a, .int .i64 b] w fun e w' => e = .returned (.tuple #[.int .i64 (if fitsI (a * b) then a * b else 0), .bool (fitsI (a * b))]) ∧ w' = w := by
  obtain ⟨a0, a1⟩ := fitsI_iff.1 ha
  obtain ⟨b0, b1⟩ := fitsI_iff.1 hb
  have HA := Lib.hid (And.intro a0 a1)
  have HB := Lib.hid (And.intro b0 b1)
  obtain ⟨x, hx⟩ : ∃ x, x = a.natAbs := ⟨_, rfl⟩
  obtain ⟨y, hy⟩ : ∃ y, y = b.natAbs := ⟨_, rfl⟩
  have hxl : x ≤ 9223372036854775808 := by unfold lo63 hi63 at *; omega
  have hyl : y ≤ 9223372036854775808 := by unfold lo63 hi63 at *; omega
  have hp : (a * b).natAbs = x * y := by rw [Int.natAbs_mul, hx, hy]
  have hm : (decide (a < 0) != decide (b < 0)) = true → a * b ≤ 0 := fun h => by
    by_cases h1 : a < 0
    · have h2 : 0 ≤ b := by simp [h1] at h; omega
      exact Int.mul_nonpos_of_nonpos_of_nonneg (by omega) h2
    · have h2 : b < 0 := by simp [h1] at h; omega
      exact Int.mul_nonpos_of_nonneg_of_nonpos (by omega) (by omega)
  have hpl : (decide (a < 0) != decide (b < 0)) = false → 0 ≤ a * b := fun h => by
    by_cases h1 : a < 0
    · have h2 : b < 0 := by simp [h1] at h; omega
      exact Int.mul_nonneg_of_nonpos_of_nonpos (by omega) (by omega)
    · have h2 : 0 ≤ b := by simp [h1] at h; omega
      exact Int.mul_nonneg (by omega) h2
  obtain ⟨q, hq⟩ : ∃ q, q = a * b := ⟨_, rfl⟩
  rw [← hq] at hp hm hpl ⊢
  obtain ⟨res, hres⟩ : ∃ res, res = if fitsI q then q else 0 := ⟨_, rfl⟩
  obtain ⟨okb, hokb⟩ : ∃ okb, okb = fitsI q := ⟨_, rfl⟩
  rw [← hres, ← hokb]
  have HRES := Lib.hid hres
  have HOKB := Lib.hid hokb
  clear hres hokb
  have HM := Lib.hid hm
  have HPL := Lib.hid hpl
  have HXL := Lib.hid hxl
  have HYL := Lib.hid hyl
  obtain ⟨p, hpp⟩ : ∃ p, p = x * y := ⟨_, rfl⟩
  rw [← hpp] at hp
  have HP := Lib.hid hp
  have HPP := Lib.hid hpp
  have HX := Lib.hid hx
  have HY := Lib.hid hy
  clear ha hb a0 a1 b0 b1 hx hy hxl hyl hp hm hpl hpp hq
  go_enter Try.func77, Try.ntmps77
  have ea := HX.out
  have eb := HY.out
  go_wp2_with fail
  refine (sizeJ a HA.out.1 HA.out.2 _).mono ?_
  rintro en wz ⟨rfl, rfl⟩
  rw [← ea]
  clear ea
  go_wp2_with fail
  refine (sizeJ b HB.out.1 HB.out.2 _).mono ?_
  rintro en wz ⟨rfl, rfl⟩
  rw [← eb]
  clear eb
  go_wp2_with fail
  refine (mul64 x y (by have := HXL.out; omega) (by have := HYL.out; omega) _).mono ?_
  rintro en wz ⟨rfl, rfl⟩
  rw [← HPP.out]
  generalize hH : ((p / 18446744073709551616 : Nat) : Int) = H
  generalize hL : ((p % 18446744073709551616 : Nat) : Int) = L
  have HH := Lib.hid hH
  have HLL := Lib.hid hL
  clear hH hL
  cases da : decide (a < 0) with
  | true =>
    cases db : decide (b < 0) with
    | true =>
        have hs := HPL.out (by rw [da, db]; rfl)
        have hqp : q = (p : Int) := by have := HP.out; omega
        have HQP := Lib.hid hqp
        clear hs hqp
        by_cases c1 : p ≤ 9223372036854775807
        · have hf : fitsI q = true := fitsI_iff.2 (by have := HQP.out; unfold lo63 hi63; omega)
          have h1 : decide (H > 0) = false := by have := HH.out; simp; omega
          have h2 : decide (L > 9223372036854775808) = false := by have := HLL.out; simp; omega
          have h3 : (L == 9223372036854775808) = false := by have := HLL.out; rw [beq_eq_false_iff_ne]; omega
          have hv : wrap64 L = q := by have := HLL.out; have := HQP.out; unfold wrap64; omega
          have HF := Lib.hid hf
          have HV := Lib.hid hv
          clear hf hv c1
          go_wp2_with fail
          go_ret2
          exact ⟨by rw [HRES.out, HOKB.out, HF.out, if_pos rfl, ← HV.out]; rfl, rfl⟩
        · have hf : fitsI q = false := by
            rw [Bool.eq_false_iff]
            intro h
            have := fitsI_iff.1 h
            have := HQP.out
            unfold lo63 hi63 at *; omega
          have HF := Lib.hid hf
          by_cases c2 : 0 < H
          · have h1 : decide (H > 0) = true := decide_eq_true c2
            clear hf c1 c2
            go_wp2_with fail
            go_ret2
            exact ⟨by rw [HRES.out, HOKB.out, HF.out]; rfl, rfl⟩
          · have h1 : decide (H > 0) = false := decide_eq_false c2
            by_cases c3 : 9223372036854775808 < L
            · have h2 : decide (L > 9223372036854775808) = true := decide_eq_true c3
              clear hf c1 c2 c3
              go_wp2_with fail
              go_ret2
              exact ⟨by rw [HRES.out, HOKB.out, HF.out]; rfl, rfl⟩
            · have h2 : decide (L > 9223372036854775808) = false := decide_eq_false c3
              have h3 : (L == 9223372036854775808) = true := by
                have := HLL.out
                have := HH.out
                rw [beq_iff_eq]; omega
              clear hf c1 c2 c3
              go_wp2_with fail
              go_ret2
              exact ⟨by rw [HRES.out, HOKB.out, HF.out]; rfl, rfl⟩
    | false =>
        have hs := HM.out (by rw [da, db]; rfl)
        have hqp : q = -(p : Int) := by have := HP.out; omega
        have HQP := Lib.hid hqp
        clear hs hqp
        by_cases c1 : p ≤ 9223372036854775808
        · have hf : fitsI q = true := fitsI_iff.2 (by have := HQP.out; unfold lo63 hi63; omega)
          have h1 : decide (H > 0) = false := by have := HH.out; simp; omega
          have h2 : decide (L > 9223372036854775808) = false := by have := HLL.out; simp; omega
          have hv : wrap64 (-(wrap64 L)) = q := by have := HLL.out; have := HQP.out; unfold wrap64; omega
          have HF := Lib.hid hf
          have HV := Lib.hid hv
          cases h3 : (L == 9223372036854775808)
          all_goals
            clear hf hv c1
            go_wp2_with fail
            go_ret2
            exact ⟨by rw [HRES.out, HOKB.out, HF.out, if_pos rfl, ← HV.out]; rfl, rfl⟩
        · have hf : fitsI q = false := by
            rw [Bool.eq_false_iff]
            intro h
            have := fitsI_iff.1 h
            have := HQP.out
            unfold lo63 hi63 at *; omega
          have HF := Lib.hid hf
          by_cases c2 : 0 < H
          · have h1 : decide (H > 0) = true := decide_eq_true c2
            clear hf c1 c2
            go_wp2_with fail
            go_ret2
            exact ⟨by rw [HRES.out, HOKB.out, HF.out]; rfl, rfl⟩
          · have h1 : decide (H > 0) = false := decide_eq_false c2
            have h2 : decide (L > 9223372036854775808) = true := by
              have := HLL.out
              have := HH.out
              simp; omega
            clear hf c1 c2
            go_wp2_with fail
            go_ret2
            exact ⟨by rw [HRES.out, HOKB.out, HF.out]; rfl, rfl⟩
  | false =>
    cases db : decide (b < 0) with
    | true =>
        have hs := HM.out (by rw [da, db]; rfl)
        have hqp : q = -(p : Int) := by have := HP.out; omega
        have HQP := Lib.hid hqp
        clear hs hqp
        by_cases c1 : p ≤ 9223372036854775808
        · have hf : fitsI q = true := fitsI_iff.2 (by have := HQP.out; unfold lo63 hi63; omega)
          have h1 : decide (H > 0) = false := by have := HH.out; simp; omega
          have h2 : decide (L > 9223372036854775808) = false := by have := HLL.out; simp; omega
          have hv : wrap64 (-(wrap64 L)) = q := by have := HLL.out; have := HQP.out; unfold wrap64; omega
          have HF := Lib.hid hf
          have HV := Lib.hid hv
          cases h3 : (L == 9223372036854775808)
          all_goals
            clear hf hv c1
            go_wp2_with fail
            go_ret2
            exact ⟨by rw [HRES.out, HOKB.out, HF.out, if_pos rfl, ← HV.out]; rfl, rfl⟩
        · have hf : fitsI q = false := by
            rw [Bool.eq_false_iff]
            intro h
            have := fitsI_iff.1 h
            have := HQP.out
            unfold lo63 hi63 at *; omega
          have HF := Lib.hid hf
          by_cases c2 : 0 < H
          · have h1 : decide (H > 0) = true := decide_eq_true c2
            clear hf c1 c2
            go_wp2_with fail
            go_ret2
            exact ⟨by rw [HRES.out, HOKB.out, HF.out]; rfl, rfl⟩
          · have h1 : decide (H > 0) = false := decide_eq_false c2
            have h2 : decide (L > 9223372036854775808) = true := by
              have := HLL.out
              have := HH.out
              simp; omega
            clear hf c1 c2
            go_wp2_with fail
            go_ret2
            exact ⟨by rw [HRES.out, HOKB.out, HF.out]; rfl, rfl⟩
    | false =>
        have hs := HPL.out (by rw [da, db]; rfl)
        have hqp : q = (p : Int) := by have := HP.out; omega
        have HQP := Lib.hid hqp
        clear hs hqp
        by_cases c1 : p ≤ 9223372036854775807
        · have hf : fitsI q = true := fitsI_iff.2 (by have := HQP.out; unfold lo63 hi63; omega)
          have h1 : decide (H > 0) = false := by have := HH.out; simp; omega
          have h2 : decide (L > 9223372036854775808) = false := by have := HLL.out; simp; omega
          have h3 : (L == 9223372036854775808) = false := by have := HLL.out; rw [beq_eq_false_iff_ne]; omega
          have hv : wrap64 L = q := by have := HLL.out; have := HQP.out; unfold wrap64; omega
          have HF := Lib.hid hf
          have HV := Lib.hid hv
          clear hf hv c1
          go_wp2_with fail
          go_ret2
          exact ⟨by rw [HRES.out, HOKB.out, HF.out, if_pos rfl, ← HV.out]; rfl, rfl⟩
        · have hf : fitsI q = false := by
            rw [Bool.eq_false_iff]
            intro h
            have := fitsI_iff.1 h
            have := HQP.out
            unfold lo63 hi63 at *; omega
          have HF := Lib.hid hf
          by_cases c2 : 0 < H
          · have h1 : decide (H > 0) = true := decide_eq_true c2
            clear hf c1 c2
            go_wp2_with fail
            go_ret2
            exact ⟨by rw [HRES.out, HOKB.out, HF.out]; rfl, rfl⟩
          · have h1 : decide (H > 0) = false := decide_eq_false c2
            by_cases c3 : 9223372036854775808 < L
            · have h2 : decide (L > 9223372036854775808) = true := decide_eq_true c3
              clear hf c1 c2 c3
              go_wp2_with fail
              go_ret2
              exact ⟨by rw [HRES.out, HOKB.out, HF.out]; rfl, rfl⟩
            · have h2 : decide (L > 9223372036854775808) = false := decide_eq_false c3
              have h3 : (L == 9223372036854775808) = true := by
                have := HLL.out
                have := HH.out
                rw [beq_iff_eq]; omega
              clear hf c1 c2 c3
              go_wp2_with fail
              go_ret2
              exact ⟨by rw [HRES.out, HOKB.out, HF.out]; rfl, rfl⟩
end Go.Sl
/-! ### Jo -/
namespace Go.Sl
open Go.RowKit Go.Proofs Go.Proofs.YteakblblpiihpaaW.PrintWords Go.Proofs.Yteakblblpiihpaa.PZs
set_option linter.unusedVariables false
set_option linter.unusedSimpArgs false
set_option maxRecDepth 100000

/-- num.Add. -/
theorem numAddJ_f {a b : Int} (ha : fitsI a = true) (hb : fitsI b = true) : num_Add.f a b = some (if fitsI (a + b) then a + b else 0, fitsI (a + b)) := by
  obtain ⟨a0, a1⟩ := fitsI_iff.1 ha
  obtain ⟨b0, b1⟩ := fitsI_iff.1 hb
  unfold lo63 hi63 at *
  unfold num_Add.f
  cases hf : fitsI (a + b) with
  | true =>
    obtain ⟨c0, c1⟩ := fitsI_iff.1 hf
    unfold lo63 hi63 at *
    have hw : wrap64 (a + b) = a + b := by unfold wrap64; omega
    rw [hw]
    by_cases h0 : b = 0
    · rw [if_pos h0]; simp
    · have : (decide (a + b > a) != decide (b > 0)) = false := by
        by_cases h1 : b > 0
        · simp [h1]; omega
        · simp [h1]; omega
      rw [this]; simp
  | false =>
    have hn : ¬ (-9223372036854775808 ≤ a + b ∧ a + b ≤ 9223372036854775807) := fun h => by rw [fitsI_iff.2 h] at hf; cases hf
    have h0 : ¬ b = 0 := by omega
    have : (decide (wrap64 (a + b) > a) != decide (b > 0)) = true := by
      by_cases h1 : b > 0
      · have : ¬ wrap64 (a + b) > a := by unfold wrap64; omega
        simp [h1, this]
      · have : wrap64 (a + b) > a := by unfold wrap64; omega
        simp [h1, this]
    rw [this, if_neg h0]; simp
theorem numAddJ {a b : Int} (ha : fitsI a = true) (hb : fitsI b = true) (w : World) :
    Calls Try.prog 51 #[.int .i64 a, .int .i64 b] w fun e w' => e = .returned (.tuple #[.int .i64 (if fitsI (a + b) then a + b else 0), .bool (fitsI (a + b))]) ∧ Below w.heap.size w w' := by
  refine (num_Add.calls a b _ _ w (numAddJ_f ha hb)).mono ?_
  rintro e w' ⟨rfl, h⟩
  exact ⟨rfl, h.below⟩
/-- A member's score, of scores and weights, from out on. -/
def jnGo (how : Int) : Int → Bool → List (Int × Int) → Option Int
  | out, _, [] => some out
  | out, first, p :: t =>
    if fitsI (p.1 * p.2) then
      if first then jnGo how (p.1 * p.2) false t
      else if how = 1 then jnGo how (min out (p.1 * p.2)) false t
      else if how = 2 then jnGo how (max out (p.1 * p.2)) false t
      else if fitsI (out + p.1 * p.2) then jnGo how (out + p.1 * p.2) false t else none
    else none
theorem rd_zip {xs ys : List Int} (h : xs.length = ys.length) {i : Nat} (hi : i < xs.length) : (xs.zip ys).drop i = (rd xs (i : Int), rd ys (i : Int)) :: (xs.zip ys).drop (i + 1) := by
  have h1 : i < (xs.zip ys).length := by rw [List.length_zip]; omega
  rw [List.drop_eq_getElem_cons h1, List.getElem_zip]
  have e1 : rd xs (i : Int) = xs[i] := by unfold rd; simp [List.getD_eq_getElem?_getD, hi]
  have e2 : rd ys (i : Int) = ys[i] := by unfold rd; simp [List.getD_eq_getElem?_getD, show i < ys.length by omega]
  rw [e1, e2]
theorem rd_fits {xs : List Int} (h : ∀ x ∈ xs, fitsI x = true) {i : Nat} (hi : i < xs.length) : fitsI (rd xs (i : Int)) = true := by
  have e1 : rd xs (i : Int) = xs[i] := by unfold rd; simp [List.getD_eq_getElem?_getD, hi]
  rw [e1]; exact h _ (List.getElem_mem hi)
set_option maxHeartbeats 8000000 in
/-- 'joined'. -/
theorem joinedC {w : World} {A B : Option Addr} {c d : Nat} {ss ws : List Int} {how : Int} (hA : Kd.C (Kd.int .i64) w A ss.length ss) (hB : Kd.C (Kd.int .i64) w B ws.length ws) (hl : ss.length = ws.length) (hb : ss.length ≤ 1000000)
    (hs : ∀ x ∈ ss, fitsI x = true) (hw : ∀ x ∈ ws, fitsI x = true) :
    Calls Try.prog 56 #[.int .i64 how, .slice A ss.length c, .slice B ws.length d] w fun e w' => e = .returned (.tuple #[.int .i64 ((jnGo how 0 true (ss.zip ws)).getD 0), .bool (jnGo how 0 true (ss.zip ws)).isSome]) ∧ Below w.heap.size w w' := by
  have HA := Lib.hid hA
  have HB := Lib.hid hB
  have HL := Lib.hid hl
  have HLB := Lib.hid hb
  have HFS := Lib.hid hs
  have HFW := Lib.hid hw
  obtain ⟨J, hJ⟩ : ∃ J, J = jnGo how 0 true (ss.zip ws) := ⟨_, rfl⟩
  rw [← hJ]
  have HJ0 : Hid (jnGo how 0 (decide (0 = 0)) ((ss.zip ws).drop 0) = J) := Lib.hid (by rw [hJ]; rfl)
  rw [← hl]
  clear hA hB hl hb hs hw hJ
  go_enter Try.func56, Try.ntmps56
  go_wp2_with fail
  go_loopw [8, 14] (fun v8 v14 wr => ∃ (i : Nat) (out : Int), v14 = .int .i64 i ∧ v8 = .int .i64 out ∧ i ≤ ss.length ∧ Hid (fitsI out = true) ∧ Hid (jnGo how out (decide (i = 0)) ((ss.zip ws).drop i) = J) ∧ Hid (Below w.heap.size w wr)) (fun _ v14 _ => ss.length - (RowKit.intOf v14).toNat)
  case atStart => exact ⟨0, 0, rfl, rfl, by omega, Lib.hid rfl, HJ0, Lib.hid (Below.refl _ _)⟩
  case round =>
    obtain ⟨i, out, rfl, rfl, hi, HO, HJ, HW⟩ := hrel
    by_cases hlt : i < ss.length
    · have hwi : wrap64 ((i : Int) + 1) = ((i + 1 : Nat) : Int) := by have := HLB.out; unfold wrap64; omega
      obtain ⟨ad, e1, x0⟩ := Kd.at_int (Kd.C_below HA.out HW.out) i (by omega) (by omega)
      obtain ⟨ae, e2, x1⟩ := Kd.at_int (Kd.C_below HB.out HW.out) i (by omega) (by have := HL.out; omega)
      subst e1 e2
      rw [Int.toNat_natCast] at x0 x1
      have HZ := Lib.hid (rd_zip HL.out hlt)
      have HS1 := Lib.hid (rd_fits HFS.out hlt)
      have HW1 := Lib.hid (rd_fits HFW.out (show i < ws.length by have := HL.out; omega))
      generalize rd ss (i : Int) = s1 at *
      generalize rd ws (i : Int) = w1 at *
      have ht := timesJ HS1.out HW1.out
      obtain ⟨pv, hpv⟩ : ∃ pv, pv = if fitsI (s1 * w1) then s1 * w1 else 0 := ⟨_, rfl⟩
      obtain ⟨pk, hpk⟩ : ∃ pk, pk = fitsI (s1 * w1) := ⟨_, rfl⟩
      rw [← hpv, ← hpk] at ht
      have HPV := Lib.hid hpv
      have HPK := Lib.hid hpk
      clear hpv hpk
      go_upto_region 5 with (fail)
      go_region_with (go_at_call 77; refine (ht _).mono ?_; rintro en wz ⟨rfl, rfl⟩)
      all_goals
        clear ht x0 x1
        cases pk with
        | false =>
          have HE : Hid (J = none) := Lib.hid (by
            have := HJ.out
            rw [HZ.out, jnGo, if_neg (by rw [← HPK.out]; decide)] at this
            exact this.symm)
          go_wp2_with fail
          go_ret2
          exact ⟨by rw [HE.out]; rfl, HW.out.drew⟩
        | true =>
          have hv : pv = s1 * w1 := by rw [HPV.out, ← HPK.out, if_pos rfl]
          have HFV : Hid (fitsI pv = true) := Lib.hid (by rw [hv, ← HPK.out])
          have HJ2 : Hid ((if decide (i = 0) = true then jnGo how pv false ((ss.zip ws).drop (i + 1)) else if how = 1 then jnGo how (min out pv) false ((ss.zip ws).drop (i + 1)) else if how = 2 then jnGo how (max out pv) false ((ss.zip ws).drop (i + 1)) else if fitsI (out + pv) then jnGo how (out + pv) false ((ss.zip ws).drop (i + 1)) else none) = J) := Lib.hid (by
            have := HJ.out
            rw [HZ.out, jnGo, if_pos (by rw [← HPK.out])] at this
            rw [hv]; exact this)
          clear hv
          have hne : decide (i + 1 = 0) = false := by simp
          by_cases hi0 : i = 0
          · have hd : ((i : Int) == 0) = true := by rw [hi0]; rfl
            have HJ3 : Hid (jnGo how pv (decide (i + 1 = 0)) ((ss.zip ws).drop (i + 1)) = J) := Lib.hid (by
              have := HJ2.out
              rw [if_pos (by simpa using hi0)] at this
              rw [hne]; exact this)
            clear hi0 hne
            go_wp2_with fail
            go_roundw
            case rel => exact ⟨i + 1, pv, by rw [hwi], rfl, by omega, HFV, HJ3, Lib.hid HW.out.drew⟩
            case measure => rw [hwi]; simp only [RowKit.intOf, Int.toNat_natCast]; omega
          · have hd : ((i : Int) == 0) = false := by rw [beq_eq_false_iff_ne]; omega
            have HJ4 : Hid ((if how = 1 then jnGo how (min out pv) false ((ss.zip ws).drop (i + 1)) else if how = 2 then jnGo how (max out pv) false ((ss.zip ws).drop (i + 1)) else if fitsI (out + pv) then jnGo how (out + pv) false ((ss.zip ws).drop (i + 1)) else none) = J) := Lib.hid (by
              have := HJ2.out
              rw [if_neg (by simpa using hi0)] at this
              exact this)
            clear hi0
            by_cases h1 : how = 1
            · have hd1 : (how == 1) = true := by rw [h1]; rfl
              have HJ3 : Hid (jnGo how (min out pv) (decide (i + 1 = 0)) ((ss.zip ws).drop (i + 1)) = J) := Lib.hid (by
                have := HJ4.out
                rw [if_pos h1] at this
                rw [hne]; exact this)
              have HFM : Hid (fitsI (min out pv) = true) := Lib.hid (fitsI_iff.2 (by have := fitsI_iff.1 HO.out; have := fitsI_iff.1 HFV.out; unfold lo63 hi63 at *; omega))
              clear h1 hne
              obtain ⟨mn, hmn⟩ : ∃ mn, mn = min out pv := ⟨_, rfl⟩
              rw [← hmn] at HJ3 HFM
              have HMN := Lib.hid hmn
              have hmv : (if pv < out then pv else out) = mn := by rw [hmn]; omega
              clear hmn
              go_wp2_with fail
              go_roundw
              case rel => exact ⟨i + 1, mn, by rw [hwi], rfl, by omega, HFM, HJ3, Lib.hid HW.out.drew⟩
              case measure => rw [hwi]; simp only [RowKit.intOf, Int.toNat_natCast]; omega
            have hd1 : (how == 1) = false := by simpa using h1
            by_cases h2 : how = 2
            · have hd2 : (how == 2) = true := by rw [h2]; rfl
              have HJ3 : Hid (jnGo how (max out pv) (decide (i + 1 = 0)) ((ss.zip ws).drop (i + 1)) = J) := Lib.hid (by
                have := HJ4.out
                rw [if_neg h1, if_pos h2] at this
                rw [hne]; exact this)
              have HFM : Hid (fitsI (max out pv) = true) := Lib.hid (fitsI_iff.2 (by have := fitsI_iff.1 HO.out; have := fitsI_iff.1 HFV.out; unfold lo63 hi63 at *; omega))
              clear h1 h2 hne
              obtain ⟨mx, hmx⟩ : ∃ mx, mx = max out pv := ⟨_, rfl⟩
              rw [← hmx] at HJ3 HFM
              have hmv : (if out < pv then pv else out) = mx := by rw [hmx]; omega
              clear hmx
              go_wp2_with fail
              go_roundw
              case rel => exact ⟨i + 1, mx, by rw [hwi], rfl, by omega, HFM, HJ3, Lib.hid HW.out.drew⟩
              case measure => rw [hwi]; simp only [RowKit.intOf, Int.toNat_natCast]; omega
            · have hd2 : (how == 2) = false := by simpa using h2
              have HJ3 : Hid ((if fitsI (out + pv) then jnGo how (out + pv) (decide (i + 1 = 0)) ((ss.zip ws).drop (i + 1)) else none) = J) := Lib.hid (by
                have := HJ4.out
                rw [if_neg h1, if_neg h2] at this
                rw [hne]; exact this)
              have hn := numAddJ HO.out HFV.out
              obtain ⟨sv, hsv⟩ : ∃ sv, sv = if fitsI (out + pv) then out + pv else 0 := ⟨_, rfl⟩
              obtain ⟨sk, hsk⟩ : ∃ sk, sk = fitsI (out + pv) := ⟨_, rfl⟩
              rw [← hsv, ← hsk] at hn
              have HSV := Lib.hid hsv
              have HSK := Lib.hid hsk
              clear h1 h2 hne hsv hsk
              go_wp2_with fail
              refine (hn _).mono ?_
              clear hn
              rintro en wy ⟨rfl, hwy⟩
              have HWY : Hid (Below w.heap.size w wy) := Lib.hid ((HW.out.drew).trans (hwy.mono HW.out.drew.size))
              clear hwy
              cases sk with
              | false =>
                have HE : Hid (J = none) := Lib.hid (by
                  have := HJ3.out
                  rw [← HSK.out] at this
                  exact this.symm)
                go_wp2_with fail
                go_ret2
                exact ⟨by rw [HE.out]; rfl, HWY.out⟩
              | true =>
                have hv : sv = out + pv := by rw [HSV.out, ← HSK.out, if_pos rfl]
                have HFM : Hid (fitsI sv = true) := Lib.hid (by rw [hv, ← HSK.out])
                have HJ5 : Hid (jnGo how sv (decide (i + 1 = 0)) ((ss.zip ws).drop (i + 1)) = J) := Lib.hid (by
                  have := HJ3.out
                  rw [← HSK.out, if_pos rfl] at this
                  rw [hv]; exact this)
                clear hv
                go_wp2_with fail
                go_roundw
                case rel => exact ⟨i + 1, sv, by rw [hwi], rfl, by omega, HFM, HJ5, HWY⟩
                case measure => rw [hwi]; simp only [RowKit.intOf, Int.toNat_natCast]; omega
    · have hie : i = ss.length := by omega
      subst hie
      have HE : Hid (J = some out) := Lib.hid (by
        have := HJ.out
        rw [List.drop_of_length_le (by rw [List.length_zip]; omega), jnGo] at this
        exact this.symm)
      go_wp2_with fail
      go_ret2
      exact ⟨by rw [HE.out]; rfl, HW.out⟩
end Go.Sl
