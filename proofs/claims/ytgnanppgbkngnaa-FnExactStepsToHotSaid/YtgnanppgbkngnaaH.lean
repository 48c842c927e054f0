/- Contracts of the functions on how warm a motor is. -/
import Derived.Test.YtgnanppgbkngnaaB
namespace Go.Proofs.Ytgnanppgbkngnaa
open Go.ChangeShapes Go.WideShapes Go.ChangeAt Go.RowKit
set_option linter.unusedVariables false
set_option linter.unusedSimpArgs false

/-- How warm a motor is after a step, and after k of them. -/
def warm1 (h c x : Int) : Int := x + h - divR ((x + h) * c) 1000
def warmF (h c : Int) : Nat → Int → Int
  | 0, x => x
  | k + 1, x => warm1 h c (warmF h c k x)
theorem divR_mul {a b : Int} (ha : 0 ≤ a) (hb : 0 < b) : divR (a * b) b = a := by
  rw [divR_nonneg (Int.mul_nonneg ha (by omega)) hb, Int.mul_emod_left, Int.mul_ediv_cancel _ (by omega), if_neg (by omega)]
  omega
theorem divR_share {x c : Int} (hx : 0 ≤ x) (c0 : 0 ≤ c) (c1 : c ≤ 1000) : 0 ≤ divR (x * c) 1000 ∧ divR (x * c) 1000 ≤ x := by
  have h0 : 0 ≤ x * c := Int.mul_nonneg hx c0
  have h1 : x * c ≤ x * 1000 := Int.mul_le_mul_of_nonneg_left c1 hx
  have h2 := divR_mono h1 (b := 1000) (by omega)
  rw [divR_mul hx (by omega)] at h2
  exact ⟨divR_pos h0 (by omega), h2⟩
theorem warm1_bd {h c x : Int} (hx : 0 ≤ x) (h0 : 0 ≤ h) (h1 : h ≤ 1000) (c0 : 0 ≤ c) (c1 : c ≤ 1000) : 0 ≤ warm1 h c x ∧ warm1 h c x ≤ x + 1000 := by
  have := divR_share (show 0 ≤ x + h by omega) c0 c1
  unfold warm1
  omega
theorem warmF_bd {h c x : Int} (hx : 0 ≤ x) (h0 : 0 ≤ h) (h1 : h ≤ 1000) (c0 : 0 ≤ c) (c1 : c ≤ 1000) (k : Nat) : 0 ≤ warmF h c k x ∧ warmF h c k x ≤ x + 1000 * k := by
  induction k with
  | zero => simp [warmF]; omega
  | succ k ih =>
    have := warm1_bd ih.1 h0 h1 c0 c1
    rw [warmF]
    omega
def heatOk (x h c : Int) : Bool := inB x 0 100000 && inB h 0 1000 && inB c 0 1000
theorem heatOk_true {x h c : Int} (k : heatOk x h c = true) : (0 ≤ x ∧ x ≤ 100000) ∧ (0 ≤ h ∧ h ≤ 1000) ∧ (0 ≤ c ∧ c ≤ 1000) := by
  simp only [heatOk, Bool.and_eq_true] at k
  obtain ⟨⟨h0, h1⟩, h2⟩ := k
  exact ⟨inB_true h0, inB_true h1, inB_true h2⟩
/-- The first of the steps from k on, n of them, after which it is warmer than l. -/
def hotF (h c l x : Int) : Nat → Nat → Int × Int
  | 0, _ => (0, 3)
  | n + 1, k => if l < warmF h c k x then ((k : Int), 0) else hotF h c l x n (k + 1)
def fHot (x h c l : Int) : Int × Int := if heatOk x h c && inB l 0 1000000 then hotF h c l x 61 0 else (0, 2)
def fHeat (x h c s : Int) : Int × Int := if heatOk x h c && inB s 0 60 then (warmF h c s.toNat x, 0) else (0, 2)
theorem isShare_c (n : Int) (w : World) : Calls Try.prog 73 #[.int .i64 n] w fun e w' => e = .returned (.bool (inB n 0 1000)) ∧ w = w' := by
  go_enter Try.func73, Try.ntmps73
  go_wp2_with
    (first
      | (go_at_call 48; go_call (within_c _ _ _ _); rintro e w' ⟨rfl, rfl⟩))
  all_goals (go_ret; simp [*])
theorem l10Share_c (n : Int) (w : World) : Calls Try.prog 45 #[.int .i64 n] w fun e w' => e = .returned (.bool (inB n 0 1000)) ∧ w = w' := by
  go_enter Try.func45, Try.ntmps45
  go_wp2_with
    (first
      | (go_at_call 44; go_call (l00In_c _ _ _ _); rintro e w' ⟨rfl, rfl⟩))
  all_goals (go_ret; simp [*])
theorem heated_c (x h c : Int) (w : World) : Calls Try.prog 47 #[.int .i64 x, .int .i64 h, .int .i64 c] w fun e w' => e = .returned (.bool (heatOk x h c)) ∧ w = w' := by
  unfold heatOk
  go_enter Try.func47, Try.ntmps47
  go_wp2_with
    (first
      | (go_at_call 48; go_call (within_c _ _ _ _); rintro e w' ⟨rfl, rfl⟩)
      | (go_at_call 73; go_call (isShare_c _ _); rintro e w' ⟨rfl, rfl⟩))
  all_goals (go_ret; simp [*])
theorem warmer_c (x h c : Int) (x0 : 0 ≤ x) (x1 : x ≤ 1000000) (h0 : 0 ≤ h) (h1 : h ≤ 1000) (c0 : 0 ≤ c) (c1 : c ≤ 1000) (w : World) : Calls Try.prog 49 #[.int .i64 x, .int .i64 h, .int .i64 c] w fun e w' => e = .returned (.int .i64 (warm1 h c x)) ∧ ∃ n, w' = w.drewN n := by
  have hw : warm1 h c x = x + h - divR ((x + h) * c) 1000 := rfl
  rw [hw]
  clear hw
  obtain ⟨m0, m1⟩ := mul_bd (show 0 ≤ x + h by omega) (show x + h ≤ 1001000 by omega) c0 c1
  obtain ⟨q0, q1⟩ := divR_share (show 0 ≤ x + h by omega) c0 c1
  go_enter Try.func49, Try.ntmps49
  go_wp2_with
    (first
      | (go_at_call 71; go_call (nearest_c); rintro e w' ⟨rfl, nq, rfl⟩))
  go_ret
  exact ⟨rfl, _, rfl⟩
theorem l10Warm_c (x h c : Int) (x0 : 0 ≤ x) (x1 : x ≤ 1000000) (h0 : 0 ≤ h) (h1 : h ≤ 1000) (c0 : 0 ≤ c) (c1 : c ≤ 1000) (w : World) : Calls Try.prog 46 #[.int .i64 x, .int .i64 h, .int .i64 c] w fun e w' => e = .returned (.int .i64 (warm1 h c x)) ∧ ∃ n, w' = w.drewN n := by
  have hw : warm1 h c x = x + h - divR ((x + h) * c) 1000 := rfl
  rw [hw]
  clear hw
  obtain ⟨m0, m1⟩ := mul_bd (show 0 ≤ x + h by omega) (show x + h ≤ 1001000 by omega) c0 c1
  obtain ⟨q0, q1⟩ := divR_share (show 0 ≤ x + h by omega) c0 c1
  go_enter Try.func46, Try.ntmps46
  go_wp2_with
    (first
      | (go_at_call 68; go_call (l01Div_c); rintro e w' ⟨rfl, rfl⟩))
  go_ret
  exact ⟨rfl, 0, rfl⟩
theorem implHeatAfter_c (x h c s : Int) (w : World) : Calls Try.prog 16 #[.int .i64 x, .int .i64 h, .int .i64 c, .int .i64 s] w fun e w' => e = .returned (.tuple #[.int .i64 (fHeat x h c s).1, .int .i64 (fHeat x h c s).2]) ∧ ∃ n, w' = w.drewN n := by
  cases hok : heatOk x h c <;> cases hs : inB s 0 60
  rotate_left 3
  · obtain ⟨⟨x0, x1⟩, ⟨h0, h1⟩, ⟨c0, c1⟩⟩ := heatOk_true hok
    obtain ⟨s0, s1⟩ := inB_true hs
    have H := Lib.hid (show fHeat x h c s = (warmF h c s.toNat x, 0) by simp [fHeat, hok, hs])
    go_enter Try.func16, Try.ntmps16
    go_wp2_with
      (first
        | (go_at_call 47; go_call (heated_c _ _ _ _); rintro e w' ⟨rfl, rfl⟩)
        | (go_at_call 48; go_call (within_c _ _ _ _); rintro e w' ⟨rfl, rfl⟩))
    go_loopw [0, 21] (fun v i wr => ∃ k : Nat, (k : Int) ≤ s ∧ i = .int .i64 k ∧ v = .int .i64 (warmF h c k x) ∧ ∃ n, wr = w.drewN n) (fun _ i _ => s.toNat - (intOf i).toNat)
    case atStart => exact ⟨0, by omega, rfl, rfl, 0, rfl⟩
    case round =>
      obtain ⟨k, hk, rfl, rfl, n, rfl⟩ := hrel
      obtain ⟨b0, b1⟩ := warmF_bd x0 h0 h1 c0 c1 k
      by_cases hlt : (k : Int) < s
      ·
        go_wp2_with
          (first
            | (go_at_call 49; go_call (warmer_c); rintro e w' ⟨rfl, nq, rfl⟩))
        go_roundw
        case rel => exact ⟨k + 1, by omega, by go_num, rfl, _, rfl⟩
        case measure => simp [intOf]; omega
      · go_wp2
        go_ret2
        obtain rfl : s = k := by omega
        rw [H.out]
        exact ⟨by simp, _, rfl⟩
  all_goals
    go_enter Try.func16, Try.ntmps16
    go_wp2_with
      (first
        | (go_at_call 47; go_call (heated_c _ _ _ _); rintro e w' ⟨rfl, rfl⟩)
        | (go_at_call 48; go_call (within_c _ _ _ _); rintro e w' ⟨rfl, rfl⟩))
    go_ret2
    exact ⟨by simp [fHeat, hok, hs], 0, rfl⟩
theorem specHeatAfter_c (x h c s : Int) (w : World) : Calls Try.prog 15 #[.int .i64 x, .int .i64 h, .int .i64 c, .int .i64 s] w fun e w' => e = .returned (.tuple #[.int .i64 (fHeat x h c s).1, .int .i64 (fHeat x h c s).2]) ∧ ∃ n, w' = w.drewN n := by
  cases hx : inB x 0 100000 <;> cases hh : inB h 0 1000 <;> cases hc : inB c 0 1000 <;> cases hs : inB s 0 60
  rotate_left 15
  · have hok : heatOk x h c = true := by simp [heatOk, hx, hh, hc]
    obtain ⟨⟨x0, x1⟩, ⟨h0, h1⟩, ⟨c0, c1⟩⟩ := heatOk_true hok
    obtain ⟨s0, s1⟩ := inB_true hs
    have H := Lib.hid (show fHeat x h c s = (warmF h c s.toNat x, 0) by simp [fHeat, hok, hs])
    go_enter Try.func15, Try.ntmps15
    go_wp2_with
      (first
        | (go_at_call 45; go_call (l10Share_c _ _); rintro e w' ⟨rfl, rfl⟩)
        | (go_at_call 44; go_call (l00In_c _ _ _ _); rintro e w' ⟨rfl, rfl⟩))
    go_loopw [0, 10] (fun v i wr => ∃ k : Nat, (k : Int) ≤ s ∧ i = .int .i64 k ∧ v = .int .i64 (warmF h c k x) ∧ ∃ n, wr = w.drewN n) (fun _ i _ => s.toNat - (intOf i).toNat)
    case atStart => exact ⟨0, by omega, rfl, rfl, 0, rfl⟩
    case round =>
      obtain ⟨k, hk, rfl, rfl, n, rfl⟩ := hrel
      obtain ⟨b0, b1⟩ := warmF_bd x0 h0 h1 c0 c1 k
      by_cases hlt : (k : Int) < s
      ·
        go_wp2_with
          (first
            | (go_at_call 46; go_call (l10Warm_c); rintro e w' ⟨rfl, nq, rfl⟩))
        go_roundw
        case rel => exact ⟨k + 1, by omega, by go_num, rfl, _, rfl⟩
        case measure => simp [intOf]; omega
      · go_wp2
        go_ret2
        obtain rfl : s = k := by omega
        rw [H.out]
        exact ⟨by simp, _, rfl⟩
  all_goals
    go_enter Try.func15, Try.ntmps15
    go_wp2_with
      (first
        | (go_at_call 45; go_call (l10Share_c _ _); rintro e w' ⟨rfl, rfl⟩)
        | (go_at_call 44; go_call (l00In_c _ _ _ _); rintro e w' ⟨rfl, rfl⟩))
    go_ret2
    exact ⟨by simp [fHeat, heatOk, hx, hh, hc, hs], 0, rfl⟩
theorem walk_FnExactHeatAfter (x h c s : Int) (w : World) (_ : I64 x) (_ : I64 h) (_ : I64 c) (_ : I64 s) : Calls Try.prog 3 #[.int .i64 x, .int .i64 h, .int .i64 c, .int .i64 s] w fun e w' => e = .returned (.bool true) ∧ Below w.heap.size w w' := by
  go_enter Try.func3, Try.ntmps3
  go_wp2_with
    (first
      | (go_at_call 15; go_call (specHeatAfter_c _ _ _ _ _); rintro e w' ⟨rfl, nq, rfl⟩)
      | (go_at_call 16; go_call (implHeatAfter_c _ _ _ _ _); rintro e w' ⟨rfl, nq, rfl⟩))
  go_returns
  refine ⟨by simp, ?_⟩
  repeat' (first
    | (with_reducible exact Below.refl _ _)
    | (with_reducible assumption)
    | (with_reducible refine Below.alloc ?_ ?_ _)
    | (with_reducible refine Below.drew ?_)
    | (with_reducible refine bdrewN ?_ _)
    | (with_reducible refine Below.setCell ?_ ?_ _)
    | (with_reducible refine bthen (by assumption) ?_ ?_)
    | go_size)
theorem implStepsToHot_c (x h c l : Int) (w : World) : Calls Try.prog 18 #[.int .i64 x, .int .i64 h, .int .i64 c, .int .i64 l] w fun e w' => e = .returned (.tuple #[.int .i64 (fHot x h c l).1, .int .i64 (fHot x h c l).2]) ∧ ∃ n, w' = w.drewN n := by
  cases hok : heatOk x h c <;> cases hs : inB l 0 1000000
  rotate_left 3
  · obtain ⟨⟨x0, x1⟩, ⟨h0, h1⟩, ⟨c0, c1⟩⟩ := heatOk_true hok
    obtain ⟨s0, s1⟩ := inB_true hs
    have H := Lib.hid (show fHot x h c l = hotF h c l x 61 0 by simp [fHot, hok, hs])
    go_enter Try.func18, Try.ntmps18
    go_wp2_with
      (first
        | (go_at_call 47; go_call (heated_c _ _ _ _); rintro e w' ⟨rfl, rfl⟩)
        | (go_at_call 48; go_call (within_c _ _ _ _); rintro e w' ⟨rfl, rfl⟩)
        | (go_at_call 45; go_call (l10Share_c _ _); rintro e w' ⟨rfl, rfl⟩)
        | (go_at_call 44; go_call (l00In_c _ _ _ _); rintro e w' ⟨rfl, rfl⟩))
    go_loopw [0, 10] (fun v i wr => ∃ k m : Nat, k + m = 61 ∧ Hid (hotF h c l x m k = hotF h c l x 61 0) ∧ i = .int .i64 k ∧ v = .int .i64 (warmF h c k x) ∧ ∃ n, wr = w.drewN n) (fun _ i _ => 61 - (intOf i).toNat)
    case atStart => exact ⟨0, 61, rfl, Lib.hid rfl, rfl, rfl, 0, rfl⟩
    case round =>
      obtain ⟨k, m, hk, HK, rfl, rfl, n, rfl⟩ := hrel
      obtain ⟨b0, b1⟩ := warmF_bd x0 h0 h1 c0 c1 k
      by_cases hlt : (k : Int) ≤ 60
      · obtain ⟨m, rfl⟩ : ∃ m', m = m' + 1 := ⟨m - 1, by omega⟩
        by_cases hw : l < warmF h c k x
        ·
          go_wp2_with
            (first
              | (go_at_call 49; go_call (warmer_c); rintro e w' ⟨rfl, nq, rfl⟩))
          go_ret2
          have e := HK.out
          rw [hotF, if_pos hw] at e
          rw [H.out, ← e]
          exact ⟨rfl, _, rfl⟩
        · have HN := Lib.hid (show hotF h c l x m (k + 1) = hotF h c l x 61 0 by have e := HK.out; rw [hotF, if_neg hw] at e; exact e)
          go_wp2_with
            (first
              | (go_at_call 49; go_call (warmer_c); rintro e w' ⟨rfl, nq, rfl⟩))
          go_roundw
          case rel => exact ⟨k + 1, m, by omega, HN, by go_num, rfl, _, rfl⟩
          case measure => simp [intOf]; omega
      · obtain rfl : m = 0 := by omega
        go_wp2
        go_ret2
        have e := HK.out
        rw [hotF] at e
        rw [H.out, ← e]
        exact ⟨rfl, _, rfl⟩
  all_goals
    go_enter Try.func18, Try.ntmps18
    go_wp2_with
      (first
        | (go_at_call 47; go_call (heated_c _ _ _ _); rintro e w' ⟨rfl, rfl⟩)
        | (go_at_call 48; go_call (within_c _ _ _ _); rintro e w' ⟨rfl, rfl⟩)
        | (go_at_call 45; go_call (l10Share_c _ _); rintro e w' ⟨rfl, rfl⟩)
        | (go_at_call 44; go_call (l00In_c _ _ _ _); rintro e w' ⟨rfl, rfl⟩))
    go_ret2
    exact ⟨by simp [fHot, hok, hs], 0, rfl⟩
theorem specStepsToHot_c (x h c l : Int) (w : World) : Calls Try.prog 17 #[.int .i64 x, .int .i64 h, .int .i64 c, .int .i64 l] w fun e w' => e = .returned (.tuple #[.int .i64 (fHot x h c l).1, .int .i64 (fHot x h c l).2]) ∧ ∃ n, w' = w.drewN n := by
  cases hx : inB x 0 100000 <;> cases hh : inB h 0 1000 <;> cases hc : inB c 0 1000 <;> cases hs : inB l 0 1000000
  rotate_left 15
  · have hok : heatOk x h c = true := by simp [heatOk, hx, hh, hc]
    obtain ⟨⟨x0, x1⟩, ⟨h0, h1⟩, ⟨c0, c1⟩⟩ := heatOk_true hok
    obtain ⟨s0, s1⟩ := inB_true hs
    have H := Lib.hid (show fHot x h c l = hotF h c l x 61 0 by simp [fHot, hok, hs])
    go_enter Try.func17, Try.ntmps17
    go_wp2_with
      (first
        | (go_at_call 47; go_call (heated_c _ _ _ _); rintro e w' ⟨rfl, rfl⟩)
        | (go_at_call 48; go_call (within_c _ _ _ _); rintro e w' ⟨rfl, rfl⟩)
        | (go_at_call 45; go_call (l10Share_c _ _); rintro e w' ⟨rfl, rfl⟩)
        | (go_at_call 44; go_call (l00In_c _ _ _ _); rintro e w' ⟨rfl, rfl⟩))
    go_loopw [0, 10] (fun v i wr => ∃ k m : Nat, k + m = 61 ∧ Hid (hotF h c l x m k = hotF h c l x 61 0) ∧ i = .int .i64 k ∧ v = .int .i64 (warmF h c k x) ∧ ∃ n, wr = w.drewN n) (fun _ i _ => 61 - (intOf i).toNat)
    case atStart => exact ⟨0, 61, rfl, Lib.hid rfl, rfl, rfl, 0, rfl⟩
    case round =>
      obtain ⟨k, m, hk, HK, rfl, rfl, n, rfl⟩ := hrel
      obtain ⟨b0, b1⟩ := warmF_bd x0 h0 h1 c0 c1 k
      by_cases hlt : (k : Int) ≤ 60
      · obtain ⟨m, rfl⟩ : ∃ m', m = m' + 1 := ⟨m - 1, by omega⟩
        by_cases hw : l < warmF h c k x
        ·
          go_wp2_with
            (first
              | (go_at_call 46; go_call (l10Warm_c); rintro e w' ⟨rfl, nq, rfl⟩))
          go_ret2
          have e := HK.out
          rw [hotF, if_pos hw] at e
          rw [H.out, ← e]
          exact ⟨rfl, _, rfl⟩
        · have HN := Lib.hid (show hotF h c l x m (k + 1) = hotF h c l x 61 0 by have e := HK.out; rw [hotF, if_neg hw] at e; exact e)
          go_wp2_with
            (first
              | (go_at_call 46; go_call (l10Warm_c); rintro e w' ⟨rfl, nq, rfl⟩))
          go_roundw
          case rel => exact ⟨k + 1, m, by omega, HN, by go_num, rfl, _, rfl⟩
          case measure => simp [intOf]; omega
      · obtain rfl : m = 0 := by omega
        go_wp2
        go_ret2
        have e := HK.out
        rw [hotF] at e
        rw [H.out, ← e]
        exact ⟨rfl, _, rfl⟩
  all_goals
    go_enter Try.func17, Try.ntmps17
    go_wp2_with
      (first
        | (go_at_call 47; go_call (heated_c _ _ _ _); rintro e w' ⟨rfl, rfl⟩)
        | (go_at_call 48; go_call (within_c _ _ _ _); rintro e w' ⟨rfl, rfl⟩)
        | (go_at_call 45; go_call (l10Share_c _ _); rintro e w' ⟨rfl, rfl⟩)
        | (go_at_call 44; go_call (l00In_c _ _ _ _); rintro e w' ⟨rfl, rfl⟩))
    go_ret2
    exact ⟨by simp [fHot, heatOk, hx, hh, hc, hs], 0, rfl⟩
theorem walk_FnExactStepsToHot (x h c s : Int) (w : World) (_ : I64 x) (_ : I64 h) (_ : I64 c) (_ : I64 s) : Calls Try.prog 4 #[.int .i64 x, .int .i64 h, .int .i64 c, .int .i64 s] w fun e w' => e = .returned (.bool true) ∧ Below w.heap.size w w' := by
  go_enter Try.func4, Try.ntmps4
  go_wp2_with
    (first
      | (go_at_call 17; go_call (specStepsToHot_c _ _ _ _ _); rintro e w' ⟨rfl, nq, rfl⟩)
      | (go_at_call 18; go_call (implStepsToHot_c _ _ _ _ _); rintro e w' ⟨rfl, nq, rfl⟩))
  go_returns
  refine ⟨by simp, ?_⟩
  repeat' (first
    | (with_reducible exact Below.refl _ _)
    | (with_reducible assumption)
    | (with_reducible refine Below.alloc ?_ ?_ _)
    | (with_reducible refine Below.drew ?_)
    | (with_reducible refine bdrewN ?_ _)
    | (with_reducible refine Below.setCell ?_ ?_ _)
    | (with_reducible refine bthen (by assumption) ?_ ?_)
    | go_size)
end Go.Proofs.Ytgnanppgbkngnaa
