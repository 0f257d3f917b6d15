/-
  'mewslaw12.OrderLast': the plain law, and the walk.
-/
import Derived.Test.YtddkongfhffajaaLawOrdO
namespace Go.Sl
open Go.RowKit Go.Proofs Go.Proofs.YtddkongfhffajaaW.PrintWords Go.Proofs.Ytddkongfhffajaa.POrderPlays
set_option linter.unusedVariables false
set_option maxRecDepth 100000

/-- When a key was touched last, of the first k calls; -1: it is gone, or never came. -/
def atStep (key : ByteArray) (i : Nat) (a : Int) (x : S29) : Int := if x.f1 = key then (if x.f0 = true then -1 else (i : Int)) else a
def atOf (l : List S29) (key : ByteArray) : Nat → Int
  | 0 => -1
  | k + 1 => if h : k < l.length then atStep key k (atOf l key k) l[k] else atOf l key k
theorem atOf_succ (l : List S29) (key : ByteArray) (k : Nat) (h : k < l.length) : atOf l key (k + 1) = atStep key k (atOf l key k) l[k] := by
  rw [atOf, dif_pos h]
theorem atOf_bounds (l : List S29) (key : ByteArray) : ∀ k, -1 ≤ atOf l key k ∧ atOf l key k < k
  | 0 => by simp [atOf]
  | k + 1 => by
    have ih := atOf_bounds l key k
    rw [atOf]
    split
    · unfold atStep
      split
      · split <;> omega
      · omega
    · omega
theorem mem_dropK {l : List ByteArray} {key k : ByteArray} : k ∈ dropK l key ↔ k ∈ l ∧ k ≠ key := by
  unfold dropK
  simp [List.mem_filter]
theorem ost_at (l : List S29) : ∀ k, k ≤ l.length → (∀ key, key ∈ ost l k ↔ 0 ≤ atOf l key k) ∧ (ost l k).Pairwise (fun a b => atOf l a k < atOf l b k)
  | 0, _ => by simp [ost, atOf]
  | k + 1, h => by
    obtain ⟨ih1, ih2⟩ := ost_at l k (by omega)
    have hk : k < l.length := by omega
    rw [ost_succ l k hk]
    have other : ∀ key, key ≠ l[k].f1 → atOf l key (k + 1) = atOf l key k := fun key hne => by
      rw [atOf_succ l key k hk]; unfold atStep; rw [if_neg (fun e => hne e.symm)]
    have pw : (dropK (ost l k) l[k].f1).Pairwise (fun a b => atOf l a (k + 1) < atOf l b (k + 1)) := by
      refine List.Pairwise.imp_of_mem ?_ (ih2.filter _)
      intro a b ha hb hab
      rw [other a (mem_dropK.1 ha).2, other b (mem_dropK.1 hb).2]
      exact hab
    unfold ostep
    by_cases hf : l[k].f0 = true
    · rw [if_pos hf]
      refine ⟨fun key => ?_, pw⟩
      rw [mem_dropK]
      by_cases e : key = l[k].f1
      · have : atOf l key (k + 1) = -1 := by rw [atOf_succ l key k hk]; unfold atStep; rw [if_pos e.symm, if_pos hf]
        rw [this]
        simp [e]
      · rw [other key e, ih1 key]
        simp [e]
    · rw [if_neg hf]
      have self : atOf l l[k].f1 (k + 1) = k := by rw [atOf_succ _ _ k hk]; unfold atStep; rw [if_pos rfl, if_neg hf]
      refine ⟨fun key => ?_, List.pairwise_append.2 ⟨pw, by simp, fun a ha b hb => ?_⟩⟩
      · rw [List.mem_append, mem_dropK, List.mem_singleton]
        by_cases e : key = l[k].f1
        · rw [e, self]; simp
        · rw [other key e, ih1 key]; simp [e]
      · rw [List.mem_singleton] at hb
        subst hb
        rw [self, other a (mem_dropK.1 ha).2]
        exact (atOf_bounds l a k).2
/-- What 'last' holds when j keys were gone through. -/
def lastAt (l : List S29) (K : List ByteArray) : Nat → Int
  | 0 => -1
  | j + 1 => atOf l (K.getD j ⟨#[]⟩) l.length
theorem lastAt_lt (l : List S29) (j : Nat) (h : j < (ost l l.length).length) : lastAt l (ost l l.length) j < lastAt l (ost l l.length) (j + 1) := by
  obtain ⟨h1, h2⟩ := ost_at l l.length (Nat.le_refl _)
  cases j with
  | zero =>
    have : (ost l l.length).getD 0 ⟨#[]⟩ ∈ ost l l.length := by
      rw [List.getD_eq_getElem?_getD, List.getElem?_eq_getElem h]; exact List.getElem_mem h
    have := (h1 _).1 this
    simp only [lastAt]
    omega
  | succ j =>
    simp only [lastAt]
    rw [List.getD_eq_getElem?_getD, List.getD_eq_getElem?_getD, List.getElem?_eq_getElem h, List.getElem?_eq_getElem (show j < (ost l l.length).length by omega)]
    exact List.pairwise_iff_getElem.1 h2 j (j + 1) (by omega) h (by omega)
/-- Whether a key is gone, from call i on, j calls behind it seen. -/
def goneOf (l : List S29) (i : Nat) : Nat → Bool
  | 0 => (l.getD i z29).f0
  | j + 1 => if h : i + 1 + j < l.length then (if l[i + 1 + j].f1 = (l.getD i z29).f1 then l[i + 1 + j].f0 else goneOf l i j) else goneOf l i j
theorem has_ostep (s : List ByteArray) (x : S29) (key : ByteArray) : hasK (ostep s x) key = if x.f1 = key then !x.f0 else hasK s key := by
  have e : ∀ p : Bool, (hasK (ostep s x) key = p) ↔ ((key ∈ ostep s x) ↔ p = true) := fun p => by
    rw [← hasK_iff, Bool.eq_iff_iff]
  rw [e]
  unfold ostep
  by_cases hf : x.f0 = true
  · rw [if_pos hf, mem_dropK]
    by_cases ek : x.f1 = key
    · rw [if_pos ek]; simp [hf, ek]
    · rw [if_neg ek, hasK_iff]
      exact ⟨fun h => h.1, fun h => ⟨h, fun e => ek e.symm⟩⟩
  · rw [if_neg hf, List.mem_append, mem_dropK, List.mem_singleton]
    by_cases ek : x.f1 = key
    · rw [if_pos ek]; simp [hf, ek]
    · rw [if_neg ek, hasK_iff]
      exact ⟨fun h => h.elim (fun h => h.1) (fun e => absurd e.symm ek), fun h => .inl ⟨h, fun e => ek e.symm⟩⟩
theorem gone_has (l : List S29) (i : Nat) (hi : i < l.length) : ∀ j, i + 1 + j ≤ l.length → hasK (ost l (i + 1 + j)) l[i].f1 = !goneOf l i j
  | 0, _ => by
    rw [Nat.add_zero, ost_succ l i hi, has_ostep, if_pos rfl]
    simp [goneOf, List.getD_eq_getElem?_getD, hi]
  | j + 1, h => by
    have hj : i + 1 + j < l.length := by omega
    have ih := gone_has l i hi j (by omega)
    rw [show i + 1 + (j + 1) = i + 1 + j + 1 from rfl, ost_succ l _ hj, has_ostep, ih]
    rw [goneOf, dif_pos hj]
    have e1 : (l.getD i z29).f1 = l[i].f1 := by simp [List.getD_eq_getElem?_getD, hi]
    rw [e1]
    split <;> rfl

theorem rd_get (l : List S29) (i : Int) (h : i.toNat < l.length) : rd_T29 l i = l[i.toNat] := by unfold rd_T29; simp [List.getD_eq_getElem?_getD, h]
theorem opInfo : ∃ i, Try.prog.info? 29 = some i ∧ i.size = 2 := by
  have h : (Try.prog.info? 29).map (fun i => i.size) = some 2 := by kernel_rfl
  obtain ⟨j, hj, hs⟩ := Option.map_eq_some_iff.1 h
  exact ⟨j, hj, hs⟩
set_option maxHeartbeats 8000000 in
theorem lastOrd {w : World} {A0 : Option Addr} {c0 : Nat} {l : List S29} (hr0 : Kd.C k29 w A0 l.length l) (hc0 : l.length ≤ c0) (_ : ∀ x ∈ l, True) :
    Calls Try.prog 4 #[.slice A0 l.length c0] w fun en w' => en = .returned (.bool true) ∧ Below w.heap.size w w' := by
  have hmax : l.length ≤ 9223372036854775807 := hr0.2.1
  have HR := Lib.hid hr0
  have HC := Lib.hid hc0
  cases hf1 : farB l with
  | true =>
    have HF := Lib.hid ((far_f hmax).trans (by rw [hf1]))
    clear hf1 hr0 hc0
    go_enter Try.func4, Try.ntmps4
    go_wp2_with fail
    refine (mewslaw12_far.calls (l.length + 1) A0 c0 l true w HR.out HC.out HF.out).mono ?_
    rintro en w1 ⟨rfl, hb⟩
    have HS1 := Lib.hid ((Sat.start w).below hb)
    clear hb
    go_wp2_with fail
    refine (aliveOrd HS1.out).mono ?_
    rintro en w5 ⟨rfl, S5⟩
    have HS5 := Lib.hid S5.old1
    clear S5
    go_wp2_with fail
    go_ret
    exact ⟨rfl, HS5.out⟩
  | false =>
    have hlen : l.length ≤ 300 := by
      unfold farB at hf1
      have := (Bool.or_eq_false_iff.1 hf1).2
      simpa using this
    have HF := Lib.hid ((far_f hmax).trans (by rw [hf1]))
    clear hf1 hr0 hc0
    go_enter Try.func4, Try.ntmps4
    go_wp2_with fail
    refine (mewslaw12_far.calls (l.length + 1) A0 c0 l false w HR.out HC.out HF.out).mono ?_
    rintro en w1 ⟨rfl, hb⟩
    have HS1 := Lib.hid ((Sat.start w).below hb)
    clear hb
    go_wp2_with fail
    refine (ordNew_calls HS1.out).mono ?_
    rintro en w2 ⟨o, rfl, e, m, S2⟩
    have HS2 : Hid (Sat w w2 (ord o [] * old w)) := Lib.hid S2.ord_shut
    clear S2 HS1
    go_wp2_with fail
    go_loopw [23] (fun v23 wr => ∃ i : Int, v23 = .int .i64 i ∧ 0 ≤ i ∧ i ≤ l.length ∧ Hid (Sat w wr (ord o (ost l i.toNat) * old w))) (fun v23 _ => l.length - (intOf v23).toNat)
    case atStart => exact ⟨0, rfl, by omega, by omega, HS2⟩
    case round =>
      clear HS2
      obtain ⟨i, rfl, h0, h1, HSr⟩ := hrel
      by_cases hlt : i < l.length
      · obtain ⟨ad, e1, hx0, hx1⟩ := at_T29 HR.out i h0 hlt
        cases e1
        have hbel := HSr.out.drop1.old1
        replace hx0 := (hbel.cell (World.block_lt_of_cell? w _ hx0)).trans hx0
        replace hx1 := (hbel.cell (World.block_lt_of_cell? w _ hx1)).trans hx1
        clear hbel
        have p0 := eq_true h0
        have p1 := eq_true hlt
        have HAL := Lib.hid (HSr.out.alloc (.cells #[.bool (rd_T29 l i).f0, .string (rd_T29 l i).f1] 29))
        have hk : i.toNat < l.length := by omega
        have HST0 : Hid (ostep (ost l i.toNat) (rd_T29 l i) = ost l (i.toNat + 1)) := Lib.hid (by rw [ost_succ l _ hk, rd_get l i hk])
        cases hf0 : (rd_T29 l i).f0
        case' true =>
          rw [hf0] at hx0 HAL
          have HST : Hid (dropK (ost l i.toNat) (rd_T29 l i).f1 = ost l (i.toNat + 1)) := Lib.hid (by rw [← HST0.out]; unfold ostep; rw [if_pos hf0])
          go_wp2_with fail
          refine (ordDrop HAL.out.p2).mono ?_
          rintro en w3 ⟨rfl, S3⟩
          rw [HST.out] at S3
        case' false =>
          rw [hf0] at hx0 HAL
          have HST : Hid (dropK (ost l i.toNat) (rd_T29 l i).f1 ++ [(rd_T29 l i).f1] = ost l (i.toNat + 1)) := Lib.hid (by rw [← HST0.out]; unfold ostep; rw [if_neg (by rw [hf0]; decide)])
          go_wp2_with fail
          refine (ordTouch HAL.out.p2).mono ?_
          rintro en w3 ⟨rfl, S3⟩
          rw [HST.out] at S3
        all_goals
          have HS3 := Lib.hid S3.p2.drop1
          clear S3 HAL HST HST0 hx0 hx1 hk hf0
          go_wp2_with fail
          go_roundw
          case rel => exact ⟨i + 1, rfl, by omega, by omega, by rw [show (i + 1).toNat = i.toNat + 1 from by omega]; exact HS3⟩
          case measure => simp [intOf]; omega
      · have hge : ¬ i < (l.length : Int) := hlt
        have ei : i.toNat = l.length := by omega
        rw [ei] at HSr
        clear hlt ei
        have hol := ost_length l l.length
        have HOL : Hid ((ost l l.length).length ≤ 1000000000) := Lib.hid (by omega)
        have hol2 : (ost l l.length).length ≤ 300 := by omega
        clear hol
        go_wp2_with fail
        refine (ordAll HOL.out HSr.out).mono ?_
        rintro en w3 ⟨v, rfl, S3⟩
        obtain ⟨K, hK⟩ : ∃ K, K = ost l l.length := ⟨_, rfl⟩
        rw [← hK] at S3 hol2
        have HK := Lib.hid hK
        obtain ⟨Ak, ck, rfl, hck, -⟩ := S3.row_str rfl
        have HS3 := Lib.hid S3
        clear S3 HSr hK HOL
        go_wp2_with fail
        clear h0 h1 hge
        go_loopw [6, 41] (fun v6 v41 wr => ∃ j : Int, v41 = .int .i64 j ∧ 0 ≤ j ∧ j ≤ K.length ∧ v6 = .int .i64 (lastAt l K j.toNat) ∧ Hid (Sat w wr (row 9 1 (.slice Ak K.length ck) K.length (K.map Value.string) * (ord o K * old w)))) (fun _ v41 _ => K.length - (intOf v41).toNat)
        case atStart => exact ⟨0, rfl, by omega, by omega, rfl, HS3⟩
        case round =>
          clear HS3
          obtain ⟨j, rfl, h0, h1, rfl, HSr⟩ := hrel
          by_cases hlt : j < K.length
          · obtain ⟨adk, ek, hxk⟩ := Kd.at_string (HSr.out.row_at rfl) j h0 hlt
            subst ek
            have p0 := eq_true h0
            have p1 := eq_true hlt
            have hla : lastAt l K j.toNat < lastAt l K (j.toNat + 1) := by rw [HK.out]; exact lastAt_lt l j.toNat (by rw [← HK.out]; omega)
            obtain ⟨key, hkey⟩ : ∃ key, key = rdOf ByteArray.empty K j := ⟨_, rfl⟩
            rw [← hkey] at hxk
            have hla2 : lastAt l K (j.toNat + 1) = atOf l key l.length := by
              simp only [lastAt]
              rw [hkey]
              unfold rdOf
              have hj2 : j.toNat < K.length := by omega
              simp [List.getD_eq_getElem?_getD, hj2]
            have HLA : Hid (lastAt l K j.toNat < atOf l key l.length) := Lib.hid (by rw [← hla2]; exact hla)
            have HLA2 := Lib.hid hla2
            clear hla hla2 hkey
            generalize hlv : lastAt l K j.toNat = lv at *
            clear hlv
            go_wp2_with fail
            obtain ⟨wo, rfl⟩ : ∃ wo : World, wo = wr := ⟨_, rfl⟩
            go_loopw [9, 47] (fun v9 v47 wi => ∃ i : Int, v47 = .int .i64 i ∧ 0 ≤ i ∧ i ≤ l.length ∧ v9 = .int .i64 (atOf l key i.toNat) ∧ Hid (Sat w wi (row 9 1 (.slice (some adk) K.length ck) K.length (K.map Value.string) * (ord o K * old w)))) (fun _ v47 _ => l.length - (intOf v47).toNat)
            case atStart => exact ⟨0, rfl, by omega, by omega, rfl, HSr⟩
            case round =>
              clear HSr hxk
              obtain ⟨i, rfl, g0, g1, rfl, HSi⟩ := hrel
              by_cases hli : i < l.length
              · obtain ⟨ad, e1, hx0, hx1⟩ := at_T29 HR.out i g0 hli
                cases e1
                have hbel := HSi.out.drop1.drop1.old1
                replace hx0 := (hbel.cell (World.block_lt_of_cell? w _ hx0)).trans hx0
                replace hx1 := (hbel.cell (World.block_lt_of_cell? w _ hx1)).trans hx1
                clear hbel
                have q0 := eq_true g0
                have q1 := eq_true hli
                have hk : i.toNat < l.length := by omega
                have HAT : Hid (atOf l key (i.toNat + 1) = atStep key i.toNat (atOf l key i.toNat) (rd_T29 l i)) := Lib.hid (by rw [atOf_succ l key _ hk, rd_get l i hk])
                have HAL := Lib.hid (HSi.out.alloc (.cells #[.bool (rd_T29 l i).f0, .string (rd_T29 l i).f1] 29)).drop1
                generalize rd_T29 l i = x at *
                clear HSi
                by_cases hek : x.f1 = key
                · have b1 : (x.f1.toList == key.toList) = true := by rw [beq_iff_eq]; rw [hek]
                  cases hf0 : x.f0
                  case' true =>
                    rw [hf0] at hx0 HAL
                    have HV : Hid (atOf l key (i.toNat + 1) = -1) := Lib.hid (by rw [HAT.out]; unfold atStep; rw [if_pos hek, if_pos hf0])
                  case' false =>
                    rw [hf0] at hx0 HAL
                    have HV : Hid (atOf l key (i.toNat + 1) = i) := Lib.hid (by rw [HAT.out]; unfold atStep; rw [if_pos hek, if_neg (by rw [hf0]; decide)]; omega)
                  all_goals
                    clear hek hf0 HAT hk
                    go_wp2_with fail
                    go_roundw
                    case rel => exact ⟨i + 1, rfl, by omega, by omega, by rw [show (i + 1).toNat = i.toNat + 1 from by omega, HV.out], HAL⟩
                    case measure => simp [intOf]; omega
                · have b1 : (x.f1.toList == key.toList) = false := by rw [beq_eq_false_iff_ne]; exact fun e => hek (toList_inj.1 e)
                  have HV : Hid (atOf l key (i.toNat + 1) = atOf l key i.toNat) := Lib.hid (by rw [HAT.out]; unfold atStep; rw [if_neg hek])
                  clear hek HAT hk
                  go_wp2_with fail
                  go_roundw
                  case rel => exact ⟨i + 1, rfl, by omega, by omega, by rw [show (i + 1).toNat = i.toNat + 1 from by omega, HV.out], HAL⟩
                  case measure => simp [intOf]; omega
              · have hge : ¬ i < (l.length : Int) := hli
                have ei : i.toNat = l.length := by omega
                rw [ei]
                have hla := HLA.out
                clear hli ei
                go_wp2_with fail
                go_roundw
                case rel => exact ⟨j + 1, rfl, by omega, by omega, by rw [show (j + 1).toNat = j.toNat + 1 from by omega, HLA2.out], HSi⟩
                case measure => simp [intOf]; omega
          · have hge : ¬ j < (K.length : Int) := hlt
            clear hlt
            go_wp2_with fail
            clear h0 h1 hge hol2
            generalize lastAt l K j.toNat = lv
            go_loopw [73] (fun v73 wr => ∃ i : Int, v73 = .int .i64 i ∧ 0 ≤ i ∧ i ≤ l.length ∧ Hid (Sat w wr (row 9 1 (.slice Ak K.length ck) K.length (K.map Value.string) * (ord o K * old w)))) (fun v73 _ => l.length - (intOf v73).toNat)
            case atStart => exact ⟨0, rfl, by omega, by omega, HSr⟩
            case round =>
              clear HSr
              obtain ⟨i, rfl, h0, h1, HSi⟩ := hrel
              by_cases hli : i < l.length
              · obtain ⟨ad, e1, hx0, hx1⟩ := at_T29 HR.out i h0 hli
                cases e1
                have hbel := HSi.out.drop1.drop1.old1
                replace hx0 := (hbel.cell (World.block_lt_of_cell? w _ hx0)).trans hx0
                replace hx1 := (hbel.cell (World.block_lt_of_cell? w _ hx1)).trans hx1
                clear hbel
                have q0 := eq_true h0
                have q1 := eq_true hli
                have hk : i.toNat < l.length := by omega
                obtain ⟨ti, hti, hsz⟩ := opInfo
                obtain ⟨x, hx⟩ : ∃ x, x = rd_T29 l i := ⟨_, rfl⟩
                have hx' : x = l[i.toNat] := by rw [hx, rd_get l i hk]
                rw [← hx] at hx0 hx1
                have HXE := Lib.hid hx'
                obtain ⟨xb, hxb⟩ : ∃ xb, xb = wr.heap.size := ⟨_, rfl⟩
                have hAL := (HSi.out.alloc (.cells #[.bool x.f0, .string x.f1] 29))
                rw [← hxb] at hAL
                have HAL := Lib.hid hAL
                have HXB := Lib.hid hxb
                have hw1 : wrap64 (i + 1) = i + 1 := by unfold wrap64; omega
                have hsl := run_slice_from (P := Try.prog) Try.underlying22 hti (some ad) l.length c0 (i + 1) (by omega) (by omega)
                have hCd := Kd.C_drop (c := c0) HR.out (m := (i + 1).toNat) (by omega) HC.out
                rw [hsz] at hsl
                have e2 : l.length - (i + 1).toNat = (l.drop (i + 1).toNat).length := by simp
                rw [e2] at hsl
                have hRL : (l.drop (i + 1).toNat).length ≤ 300 := by simp; omega
                have HRL : Hid (∀ j : Nat, j < (l.drop (i + 1).toNat).length → (l.drop (i + 1).toNat)[j]? = l[i.toNat + 1 + j]?) := Lib.hid (fun j hj => by rw [List.getElem?_drop]; congr 1; omega)
                have HRN : Hid ((l.drop (i + 1).toNat).length = l.length - (i.toNat + 1)) := Lib.hid (by simp; omega)
                obtain ⟨A2, hA2⟩ : ∃ A2, A2 = (if c0 = (i + 1).toNat then some ad else (some ad).map (·.add ((i + 1).toNat * 2))) := ⟨_, rfl⟩
                have HCD : Hid (Kd.C k29 w A2 (l.drop (i + 1).toNat).length (l.drop (i + 1).toNat)) := Lib.hid (by rw [hA2]; exact hCd)
                rw [← hA2] at hsl
                generalize l.drop (i + 1).toNat = rest at *
                clear hx hx' hAL hxb HSi hCd hA2 e2 hsz hti
                go_wp2_with fail
                clear hsl hw1 hx0 hx1 q0 q1
                rw [← HXB.out]
                obtain ⟨wo, rfl⟩ : ∃ wo : World, wo = wr := ⟨_, rfl⟩
                go_loopw [14, 85] (fun v14 v85 wi => ∃ j : Int, v85 = .int .i64 j ∧ 0 ≤ j ∧ j ≤ rest.length ∧ v14 = .bool (goneOf l i.toNat j.toNat) ∧ Hid (Sat w wi (pts xb (.cells #[.bool x.f0, .string x.f1] 29) * (row 9 1 (.slice Ak K.length ck) K.length (K.map Value.string) * (ord o K * old w))))) (fun _ v85 _ => rest.length - (intOf v85).toNat)
                case atStart => exact ⟨0, rfl, by omega, by omega, by show Value.bool x.f0 = Value.bool (goneOf l i.toNat 0); rw [HXE.out]; simp [goneOf, List.getD_eq_getElem?_getD, hk], HAL⟩
                case round =>
                  clear HAL HXB
                  obtain ⟨jj, rfl, g0, g1, rfl, HSj⟩ := hrel
                  obtain ⟨xb0, xb1, -⟩ := blk2 HSj.out.blk
                  have hxlt := HSj.out.lt
                  by_cases hlj : jj < rest.length
                  · obtain ⟨ad2, e1, hy0, hy1⟩ := at_T29 HCD.out jj g0 hlj
                    subst e1
                    have hbel := HSj.out.drop1.drop1.drop1.old1
                    replace hy0 := (hbel.cell (World.block_lt_of_cell? w _ hy0)).trans hy0
                    replace hy1 := (hbel.cell (World.block_lt_of_cell? w _ hy1)).trans hy1
                    clear hbel
                    have q0 := eq_true g0
                    have q1 := eq_true hlj
                    have hj2 : jj.toNat < rest.length := by omega
                    have hlen2 : i.toNat + 1 + jj.toNat < l.length := by have := HRN.out; omega
                    have HYE : Hid (rd_T29 rest jj = l[i.toNat + 1 + jj.toNat]) := Lib.hid (by
                      rw [rd_get rest jj hj2]
                      have := HRL.out jj.toNat hj2
                      rw [List.getElem?_eq_getElem hj2, List.getElem?_eq_getElem hlen2] at this
                      exact Option.some.inj this)
                    have HG : Hid (goneOf l i.toNat (jj.toNat + 1) = if (rd_T29 rest jj).f1 = x.f1 then (rd_T29 rest jj).f0 else goneOf l i.toNat jj.toNat) := Lib.hid (by
                      rw [goneOf, dif_pos hlen2, HYE.out, HXE.out]
                      simp [List.getD_eq_getElem?_getD, hk])
                    have HAL := Lib.hid (HSj.out.alloc (.cells #[.bool (rd_T29 rest jj).f0, .string (rd_T29 rest jj).f1] 29)).drop1
                    generalize rd_T29 rest jj = y at *
                    clear HSj HYE
                    by_cases hek : y.f1 = x.f1
                    case' pos =>
                      have b1 : (y.f1.toList == x.f1.toList) = true := by rw [beq_iff_eq]; rw [hek]
                      have HV : Hid (goneOf l i.toNat (jj.toNat + 1) = y.f0) := Lib.hid (by rw [HG.out, if_pos hek])
                    case' neg =>
                      have b1 : (y.f1.toList == x.f1.toList) = false := by rw [beq_eq_false_iff_ne]; exact fun e => hek (toList_inj.1 e)
                      have HV : Hid (goneOf l i.toNat (jj.toNat + 1) = goneOf l i.toNat jj.toNat) := Lib.hid (by rw [HG.out, if_neg hek])
                    all_goals
                      clear hek HG hj2 hlen2
                      go_wp2_with fail
                      go_roundw
                      case rel => exact ⟨jj + 1, rfl, by omega, by omega, by rw [show (jj + 1).toNat = jj.toNat + 1 from by omega, HV.out], HAL⟩
                      case measure => simp [intOf]; omega
                  · have hge : ¬ jj < (rest.length : Int) := hlj
                    have HGH : Hid (hasK K x.f1 = !goneOf l i.toNat jj.toNat) := Lib.hid (by
                      have h3 := gone_has l i.toNat hk jj.toNat (by have := HRN.out; omega)
                      rw [show i.toNat + 1 + jj.toNat = l.length from by have := HRN.out; omega, ← HK.out, ← HXE.out] at h3
                      exact h3)
                    generalize goneOf l i.toNat jj.toNat = gn at *
                    clear hlj
                    go_wp2_with fail
                    refine (ordHas HSj.out.p3).mono ?_
                    rintro en w5 ⟨rfl, rfl⟩
                    rw [HGH.out]
                    have HS5 := Lib.hid HSj.out.drop1
                    clear HSj
                    cases gn
                    all_goals
                      go_wp2_with fail
                      go_roundw
                      case rel => exact ⟨i + 1, rfl, by omega, by omega, HS5⟩
                      case measure => simp [intOf]; omega
              · have hge : ¬ i < (l.length : Int) := hli
                clear hli
                go_wp2_with fail
                refine (aliveOrd HSi.out).mono ?_
                rintro en w5 ⟨rfl, S5⟩
                have HS5 := Lib.hid S5.drop1.drop1.old1
                clear S5
                go_wp2_with fail
                go_ret
                exact ⟨rfl, HS5.out⟩
end Go.Sl
