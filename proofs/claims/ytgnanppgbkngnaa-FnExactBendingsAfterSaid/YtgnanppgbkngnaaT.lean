/- Contracts of the functions on sheaves. -/
import Derived.Test.YtgnanppgbkngnaaF
namespace Go.Proofs.Ytgnanppgbkngnaa
open Go.ChangeShapes Go.WideShapes Go.ChangeAt Go.RowKit
set_option linter.unusedVariables false
set_option linter.unusedSimpArgs false

/-- The bendings at the first k sheaves. -/
def bendTo (xs : List Int) : Nat → Int
  | 0 => 0
  | k + 1 => bendTo xs k + 1000000 / nth xs k
def bendI (xs : List Int) : Int := bendTo xs xs.length
theorem one_bend {x : Int} (h : 100 ≤ x ∧ x ≤ 10000) : 100 ≤ 1000000 / x ∧ 1000000 / x ≤ 10000 := by
  constructor
  · exact (Int.le_ediv_iff_mul_le (by omega)).2 (by omega)
  · have := Int.ediv_lt_of_lt_mul (show 0 < x by omega) (show (1000000 : Int) < 10001 * x by omega)
    omega
theorem sum_bend {xs : List Int} (h : ∀ x ∈ xs, 100 ≤ x ∧ x ≤ 10000) (k : Nat) (hk : k ≤ xs.length) : 0 ≤ bendTo xs k ∧ bendTo xs k ≤ 10000 * k := by
  induction k with
  | zero => simp [bendTo]
  | succ k ih =>
    have h1 := ih (by omega)
    have h2 := one_bend (h _ (nth_mem (show k < xs.length by omega)))
    rw [bendTo]
    omega
def fLeft (xs : List Int) (d m : Int) : Int × Int := if shB xs && inB d 0 1000000000000 && inB m 0 1000000000000 then (if m < d then (0, 6) else if bendI xs = 0 then (1000000, 0) else (min 1000000 ((m - d) / bendI xs), 0)) else (0, 2)
def fBend (xs : List Int) (r : Int) : Int × Int := if shB xs && inB r 0 1000000 then (bendI xs * r, 0) else (0, 2)
theorem isRides_c (n : Int) (w : World) : Calls Try.prog 82 #[.int .i64 n] w fun e w' => e = .returned (.bool (inB n 0 1000000)) ∧ w = w' := by
  go_enter Try.func82, Try.ntmps82
  go_wp2_with
    (first
      | (go_at_call 48; go_call (within_c _ _ _ _); rintro e w' ⟨rfl, rfl⟩))
  all_goals (go_ret; simp [*])
theorem l04Rides_c (n : Int) (w : World) : Calls Try.prog 79 #[.int .i64 n] w fun e w' => e = .returned (.bool (inB n 0 1000000)) ∧ w = w' := by
  go_enter Try.func79, Try.ntmps79
  go_wp2_with
    (first
      | (go_at_call 44; go_call (l00In_c _ _ _ _); rintro e w' ⟨rfl, rfl⟩))
  all_goals (go_ret; simp [*])
theorem bendings_c (A : Option Addr) (c : Nat) (xs : List Int) (hs : shB xs = true) (w : World) (hr : RowI w A xs) : Calls Try.prog 83 #[.slice A xs.length c] w fun e w' => e = .returned (.int .i64 (bendI xs)) ∧ w = w' := by
  obtain ⟨hn, hx⟩ := shB_true hs
  have HX := Lib.hid hx
  clear hx hs
  go_enter Try.func83, Try.ntmps83
  go_wp2
  go_loop [3, 8] (fun s v => ∃ k : Nat, k ≤ xs.length ∧ v = .int .i64 k ∧ s = .int .i64 (bendTo xs k)) (fun _ v => xs.length - (intOf v).toNat)
  case atStart => exact ⟨0, by omega, rfl, rfl⟩
  case round =>
    obtain ⟨k, hk, rfl, rfl⟩ := hrel
    obtain ⟨b0, b1⟩ := sum_bend HX.out k hk
    by_cases hlt : k < xs.length
    · obtain ⟨b, off, rfl, hb, hc⟩ := hr.at_ hlt
      obtain ⟨x0, x1⟩ := HX.out _ (nth_mem hlt)
      obtain ⟨y0, y1⟩ := one_bend ⟨x0, x1⟩
      go_wp2
      go_round
      case rel => exact ⟨k + 1, by omega, by go_num, rfl⟩
      case measure => simp [intOf]; omega
    · go_wp2
      go_ret
      obtain rfl : k = xs.length := by omega
      exact ⟨rfl, rfl⟩
theorem l06Each_c (A : Option Addr) (c : Nat) (xs : List Int) (hs : shB xs = true) (w : World) (hr : RowI w A xs) : Calls Try.prog 80 #[.slice A xs.length c] w fun e w' => e = .returned (.int .i64 (bendI xs)) ∧ w = w' := by
  obtain ⟨hn, hx⟩ := shB_true hs
  have HX := Lib.hid hx
  clear hx hs
  go_enter Try.func80, Try.ntmps80
  go_wp2
  go_loop [3, 4] (fun s v => ∃ k : Nat, k ≤ xs.length ∧ v = .int .i64 k ∧ s = .int .i64 (bendTo xs k)) (fun _ v => xs.length - (intOf v).toNat)
  case atStart => exact ⟨0, by omega, rfl, rfl⟩
  case round =>
    obtain ⟨k, hk, rfl, rfl⟩ := hrel
    obtain ⟨b0, b1⟩ := sum_bend HX.out k hk
    by_cases hlt : k < xs.length
    · obtain ⟨b, off, rfl, hb, hc⟩ := hr.at_ hlt
      obtain ⟨x0, x1⟩ := HX.out _ (nth_mem hlt)
      obtain ⟨y0, y1⟩ := one_bend ⟨x0, x1⟩
      go_wp2
      go_round
      case rel => exact ⟨k + 1, by omega, by go_num, rfl⟩
      case measure => simp [intOf]; omega
    · go_wp2
      go_ret
      obtain rfl : k = xs.length := by omega
      exact ⟨rfl, rfl⟩
theorem l06Sheaves_c (A : Option Addr) (c : Nat) (xs : List Int) (hn : xs.length ≤ 1048576) (w : World) (hr : RowI w A xs) : Calls Try.prog 78 #[.slice A xs.length c] w fun e w' => e = .returned (.bool (shB xs)) ∧ w = w' := by
  go_enter Try.func78, Try.ntmps78
  go_wp2
  go_loop [3] (fun v => ∃ k : Nat, k ≤ xs.length ∧ v = .int .i64 k ∧ Hid (∀ j, j < k → notSh (nth xs j) = false)) (fun v => xs.length - (intOf v).toNat)
  case atStart => exact ⟨0, by omega, rfl, Lib.hid (fun j hj => by omega)⟩
  case round =>
    obtain ⟨k, hk, rfl, HK⟩ := hrel
    by_cases hlt : k < xs.length
    · obtain ⟨b, off, rfl, hb, hc⟩ := hr.at_ hlt
      cases hp : inB (nth xs k) 100 10000
      · have HA := Lib.hid (show shB xs = false by rw [shB, any_of hlt (show notSh (nth xs k) = true by simp [notSh, hp])]; simp)
        go_wp2_with
          (first
            | (go_at_call 44; go_call (l00In_c _ _ _ _); rintro e w' ⟨rfl, rfl⟩))
        go_ret
        exact ⟨by rw [HA.out]; rfl, rfl⟩
      · have HN := Lib.hid (show ∀ j, j < k + 1 → notSh (nth xs j) = false from fun j hj => by
          rcases Nat.lt_or_ge j k with h1 | h1
          · exact HK.out j h1
          · obtain rfl : j = k := by omega
            simp [notSh, hp])
        go_wp2_with
          (first
            | (go_at_call 44; go_call (l00In_c _ _ _ _); rintro e w' ⟨rfl, rfl⟩))
        go_round
        case rel => exact ⟨k + 1, by omega, by go_num, HN⟩
        case measure => simp [intOf]; omega
    · obtain rfl : k = xs.length := by omega
      have HA := Lib.hid (show shB xs = decide ((xs.length : Int) ≤ 12) by rw [shB, any_none HK.out]; simp)
      go_wp2
      all_goals
        go_ret
        exact ⟨by rw [HA.out]; simp [*]; try omega, rfl⟩
theorem implBendingsAfter_c (A : Option Addr) (c : Nat) (xs : List Int) (x : Int) (hn : xs.length ≤ 1048576) (w : World) (hr : RowI w A xs) : Calls Try.prog 39 #[.slice A xs.length c, .int .i64 x] w fun e w' => e = .returned (.tuple #[.int .i64 (fBend xs x).1, .int .i64 (fBend xs x).2]) ∧ w = w' := by
  cases hs : shB xs <;> cases hx : inB x 0 1000000
  rotate_left 3
  · obtain ⟨hn', hall⟩ := shB_true hs
    have HB := sum_bend hall xs.length (by omega)
    clear hall
    obtain ⟨x0, x1⟩ := inB_true hx
    obtain ⟨m0, m1⟩ := mul_bd HB.1 (show bendTo xs xs.length ≤ 120000 by omega) x0 x1
    have hb : bendTo xs xs.length = bendI xs := rfl
    rw [hb] at HB m0 m1
    clear hb
    obtain ⟨B0, B1⟩ := HB
    have e1 : x * bendI xs = bendI xs * x := Int.mul_comm _ _
    go_enter Try.func39, Try.ntmps39
    go_wp2_with
      (first
        | (go_at_call 81; (apply Calls.mono; focus ((apply (areSheaves_c _ _ xs hn)); (all_goals (first | (with_reducible assumption) | omega | (repeat (first | (with_reducible assumption) | (with_reducible exact RowI.new _ _ _) | ((with_reducible refine RowI.new_at ?_); (simp; done)) | (with_reducible refine RowI.drewN ?_ _) | (with_reducible refine RowI.alloc ?_ _) | (with_reducible refine RowI.below ?_ (by with_reducible assumption)))))); done)); rintro e w' ⟨rfl, rfl⟩)
        | (go_at_call 82; go_call (isRides_c _ _); rintro e w' ⟨rfl, rfl⟩)
        | (go_at_call 83; (apply Calls.mono; focus ((apply (bendings_c _ _ xs hs)); (all_goals (first | (with_reducible assumption) | omega | (repeat (first | (with_reducible assumption) | (with_reducible exact RowI.new _ _ _) | ((with_reducible refine RowI.new_at ?_); (simp; done)) | (with_reducible refine RowI.drewN ?_ _) | (with_reducible refine RowI.alloc ?_ _) | (with_reducible refine RowI.below ?_ (by with_reducible assumption)))))); done)); rintro e w' ⟨rfl, rfl⟩))
    go_ret2
    exact ⟨by simp [fBend, hs, hx], rfl⟩
  all_goals
    go_enter Try.func39, Try.ntmps39
    go_wp2_with
      (first
        | (go_at_call 81; (apply Calls.mono; focus ((apply (areSheaves_c _ _ xs hn)); (all_goals (first | (with_reducible assumption) | omega | (repeat (first | (with_reducible assumption) | (with_reducible exact RowI.new _ _ _) | ((with_reducible refine RowI.new_at ?_); (simp; done)) | (with_reducible refine RowI.drewN ?_ _) | (with_reducible refine RowI.alloc ?_ _) | (with_reducible refine RowI.below ?_ (by with_reducible assumption)))))); done)); rintro e w' ⟨rfl, rfl⟩)
        | (go_at_call 82; go_call (isRides_c _ _); rintro e w' ⟨rfl, rfl⟩)
        | (go_at_call 83; (apply Calls.mono; focus ((apply (bendings_c _ _ xs hs)); (all_goals (first | (with_reducible assumption) | omega | (repeat (first | (with_reducible assumption) | (with_reducible exact RowI.new _ _ _) | ((with_reducible refine RowI.new_at ?_); (simp; done)) | (with_reducible refine RowI.drewN ?_ _) | (with_reducible refine RowI.alloc ?_ _) | (with_reducible refine RowI.below ?_ (by with_reducible assumption)))))); done)); rintro e w' ⟨rfl, rfl⟩))
    go_ret2
    exact ⟨by simp [fBend, hs, hx], rfl⟩
theorem specBendingsAfter_c (A : Option Addr) (c : Nat) (xs : List Int) (x : Int) (hn : xs.length ≤ 1048576) (w : World) (hr : RowI w A xs) : Calls Try.prog 38 #[.slice A xs.length c, .int .i64 x] w fun e w' => e = .returned (.tuple #[.int .i64 (fBend xs x).1, .int .i64 (fBend xs x).2]) ∧ w = w' := by
  cases hs : shB xs <;> cases hx : inB x 0 1000000
  rotate_left 3
  · obtain ⟨hn', hall⟩ := shB_true hs
    have HB := sum_bend hall xs.length (by omega)
    clear hall
    obtain ⟨x0, x1⟩ := inB_true hx
    obtain ⟨m0, m1⟩ := mul_bd HB.1 (show bendTo xs xs.length ≤ 120000 by omega) x0 x1
    have hb : bendTo xs xs.length = bendI xs := rfl
    rw [hb] at HB m0 m1
    clear hb
    obtain ⟨B0, B1⟩ := HB
    have e1 : x * bendI xs = bendI xs * x := Int.mul_comm _ _
    go_enter Try.func38, Try.ntmps38
    go_wp2_with
      (first
        | (go_at_call 78; (apply Calls.mono; focus ((apply (l06Sheaves_c _ _ xs hn)); (all_goals (first | (with_reducible assumption) | omega | (repeat (first | (with_reducible assumption) | (with_reducible exact RowI.new _ _ _) | ((with_reducible refine RowI.new_at ?_); (simp; done)) | (with_reducible refine RowI.drewN ?_ _) | (with_reducible refine RowI.alloc ?_ _) | (with_reducible refine RowI.below ?_ (by with_reducible assumption)))))); done)); rintro e w' ⟨rfl, rfl⟩)
        | (go_at_call 79; go_call (l04Rides_c _ _); rintro e w' ⟨rfl, rfl⟩)
        | (go_at_call 80; (apply Calls.mono; focus ((apply (l06Each_c _ _ xs hs)); (all_goals (first | (with_reducible assumption) | omega | (repeat (first | (with_reducible assumption) | (with_reducible exact RowI.new _ _ _) | ((with_reducible refine RowI.new_at ?_); (simp; done)) | (with_reducible refine RowI.drewN ?_ _) | (with_reducible refine RowI.alloc ?_ _) | (with_reducible refine RowI.below ?_ (by with_reducible assumption)))))); done)); rintro e w' ⟨rfl, rfl⟩))
    go_ret2
    exact ⟨by simp [fBend, hs, hx], rfl⟩
  all_goals
    go_enter Try.func38, Try.ntmps38
    go_wp2_with
      (first
        | (go_at_call 78; (apply Calls.mono; focus ((apply (l06Sheaves_c _ _ xs hn)); (all_goals (first | (with_reducible assumption) | omega | (repeat (first | (with_reducible assumption) | (with_reducible exact RowI.new _ _ _) | ((with_reducible refine RowI.new_at ?_); (simp; done)) | (with_reducible refine RowI.drewN ?_ _) | (with_reducible refine RowI.alloc ?_ _) | (with_reducible refine RowI.below ?_ (by with_reducible assumption)))))); done)); rintro e w' ⟨rfl, rfl⟩)
        | (go_at_call 79; go_call (l04Rides_c _ _); rintro e w' ⟨rfl, rfl⟩)
        | (go_at_call 80; (apply Calls.mono; focus ((apply (l06Each_c _ _ xs hs)); (all_goals (first | (with_reducible assumption) | omega | (repeat (first | (with_reducible assumption) | (with_reducible exact RowI.new _ _ _) | ((with_reducible refine RowI.new_at ?_); (simp; done)) | (with_reducible refine RowI.drewN ?_ _) | (with_reducible refine RowI.alloc ?_ _) | (with_reducible refine RowI.below ?_ (by with_reducible assumption)))))); done)); rintro e w' ⟨rfl, rfl⟩))
    go_ret2
    exact ⟨by simp [fBend, hs, hx], rfl⟩
theorem walk_FnExactBendingsAfter (A : Option Addr) (n c : Nat) (z : List Int) (x : Int) (w : World) (h : IntArg w A n z) (_ : I64 x) : Calls Try.prog 12 #[.slice A n c, .int .i64 x] w fun e w' => e = .returned (.bool true) ∧ Below w.heap.size w w' := by
  obtain ⟨rfl, hmax, hr, hI⟩ := h
  clear hI
  by_cases hn : z.length ≤ 1048576
  · go_enter Try.func12, Try.ntmps12
    go_wp2_with
      (first
        | (go_at_call 23; (apply Calls.mono; focus ((apply (toInt64S_c _ _ z hn)); (all_goals (first | (with_reducible assumption) | omega | (repeat (first | (with_reducible assumption) | (with_reducible exact RowI.new _ _ _) | ((with_reducible refine RowI.new_at ?_); (simp; done)) | (with_reducible refine RowI.drewN ?_ _) | (with_reducible refine RowI.alloc ?_ _) | (with_reducible refine RowI.below ?_ (by with_reducible assumption)))))); done)); rintro e w' ⟨rfl, rfl⟩)
        | (go_at_call 38; (apply Calls.mono; focus ((apply (specBendingsAfter_c _ _ z _ hn)); (all_goals (first | (with_reducible assumption) | omega | (repeat (first | (with_reducible assumption) | (with_reducible exact RowI.new _ _ _) | ((with_reducible refine RowI.new_at ?_); (simp; done)) | (with_reducible refine RowI.drewN ?_ _) | (with_reducible refine RowI.alloc ?_ _) | (with_reducible refine RowI.below ?_ (by with_reducible assumption)))))); done)); rintro e w' ⟨rfl, rfl⟩)
        | (go_at_call 39; (apply Calls.mono; focus ((apply (implBendingsAfter_c _ _ z _ hn)); (all_goals (first | (with_reducible assumption) | omega | (repeat (first | (with_reducible assumption) | (with_reducible exact RowI.new _ _ _) | ((with_reducible refine RowI.new_at ?_); (simp; done)) | (with_reducible refine RowI.drewN ?_ _) | (with_reducible refine RowI.alloc ?_ _) | (with_reducible refine RowI.below ?_ (by with_reducible assumption)))))); done)); rintro e w' ⟨rfl, rfl⟩)
        | (go_at_call 25; (apply Calls.mono; focus ((apply (eqInt64S_c _ _ _ _ z hn)); (all_goals (first | (with_reducible assumption) | omega | (repeat (first | (with_reducible assumption) | (with_reducible exact RowI.new _ _ _) | ((with_reducible refine RowI.new_at ?_); (simp; done)) | (with_reducible refine RowI.drewN ?_ _) | (with_reducible refine RowI.alloc ?_ _) | (with_reducible refine RowI.below ?_ (by with_reducible assumption)))))); done)); rintro e w' ⟨rfl, nq, rfl⟩))
    go_returns
    refine ⟨by simp, ?_⟩
    repeat' (first
      | (with_reducible exact Below.refl _ _)
      | (with_reducible assumption)
      | (with_reducible refine Below.alloc ?_ ?_ _)
      | (with_reducible refine Below.drew ?_)
      | (with_reducible refine bdrewN ?_ _)
      | (with_reducible refine Below.setCell ?_ ?_ _)
      | (with_reducible refine bthen (by assumption) ?_ ?_)
      | go_size)
  · go_enter Try.func12, Try.ntmps12
    go_wp2
    go_returns
    refine ⟨by simp, ?_⟩
    repeat' (first
      | (with_reducible exact Below.refl _ _)
      | (with_reducible assumption)
      | (with_reducible refine Below.alloc ?_ ?_ _)
      | (with_reducible refine Below.drew ?_)
      | (with_reducible refine bdrewN ?_ _)
      | (with_reducible refine Below.setCell ?_ ?_ _)
      | (with_reducible refine bthen (by assumption) ?_ ?_)
      | go_size)
theorem implBendsLeft_c (A : Option Addr) (c : Nat) (xs : List Int) (d m : Int) (hn : xs.length ≤ 1048576) (w : World) (hr : RowI w A xs) : Calls Try.prog 41 #[.slice A xs.length c, .int .i64 d, .int .i64 m] w fun e w' => e = .returned (.tuple #[.int .i64 (fLeft xs d m).1, .int .i64 (fLeft xs d m).2]) ∧ w = w' := by
  cases hs : shB xs <;> cases hd : inB d 0 1000000000000 <;> cases hm : inB m 0 1000000000000
  rotate_left 7
  · obtain ⟨hn', hall⟩ := shB_true hs
    have HB := sum_bend hall xs.length (by omega)
    clear hall
    obtain ⟨d0, d1⟩ := inB_true hd
    obtain ⟨m0, m1⟩ := inB_true hm
    have hb : bendTo xs xs.length = bendI xs := rfl
    rw [hb] at HB
    clear hb
    obtain ⟨B0, B1⟩ := HB
    by_cases hdm : m < d
    · have HF := Lib.hid (show fLeft xs d m = (0, 6) by simp [fLeft, hs, hd, hm, hdm])
      go_enter Try.func41, Try.ntmps41
      go_wp2_with
        (first
          | (go_at_call 81; (apply Calls.mono; focus ((apply (areSheaves_c _ _ xs hn)); (all_goals (first | (with_reducible assumption) | omega | (repeat (first | (with_reducible assumption) | (with_reducible exact RowI.new _ _ _) | ((with_reducible refine RowI.new_at ?_); (simp; done)) | (with_reducible refine RowI.drewN ?_ _) | (with_reducible refine RowI.alloc ?_ _) | (with_reducible refine RowI.below ?_ (by with_reducible assumption)))))); done)); rintro e w' ⟨rfl, rfl⟩)
          | (go_at_call 48; go_call (within_c _ _ _ _); rintro e w' ⟨rfl, rfl⟩)
          | (go_at_call 83; (apply Calls.mono; focus ((apply (bendings_c _ _ xs hs)); (all_goals (first | (with_reducible assumption) | omega | (repeat (first | (with_reducible assumption) | (with_reducible exact RowI.new _ _ _) | ((with_reducible refine RowI.new_at ?_); (simp; done)) | (with_reducible refine RowI.drewN ?_ _) | (with_reducible refine RowI.alloc ?_ _) | (with_reducible refine RowI.below ?_ (by with_reducible assumption)))))); done)); rintro e w' ⟨rfl, rfl⟩))
      go_ret2
      exact ⟨by rw [HF.out]; rfl, rfl⟩
    · by_cases hz : bendI xs = 0
      · have hz' : (bendI xs == 0) = true := by simp [hz]
        have HF := Lib.hid (show fLeft xs d m = (1000000, 0) by simp [fLeft, hs, hd, hm, hdm, hz])
        clear hz
        go_enter Try.func41, Try.ntmps41
        go_wp2_with
          (first
            | (go_at_call 81; (apply Calls.mono; focus ((apply (areSheaves_c _ _ xs hn)); (all_goals (first | (with_reducible assumption) | omega | (repeat (first | (with_reducible assumption) | (with_reducible exact RowI.new _ _ _) | ((with_reducible refine RowI.new_at ?_); (simp; done)) | (with_reducible refine RowI.drewN ?_ _) | (with_reducible refine RowI.alloc ?_ _) | (with_reducible refine RowI.below ?_ (by with_reducible assumption)))))); done)); rintro e w' ⟨rfl, rfl⟩)
            | (go_at_call 48; go_call (within_c _ _ _ _); rintro e w' ⟨rfl, rfl⟩)
            | (go_at_call 83; (apply Calls.mono; focus ((apply (bendings_c _ _ xs hs)); (all_goals (first | (with_reducible assumption) | omega | (repeat (first | (with_reducible assumption) | (with_reducible exact RowI.new _ _ _) | ((with_reducible refine RowI.new_at ?_); (simp; done)) | (with_reducible refine RowI.drewN ?_ _) | (with_reducible refine RowI.alloc ?_ _) | (with_reducible refine RowI.below ?_ (by with_reducible assumption)))))); done)); rintro e w' ⟨rfl, rfl⟩))
        go_ret2
        exact ⟨by rw [HF.out]; rfl, rfl⟩
      · have hz' : (bendI xs == 0) = false := by simp [hz]
        have q0 : 0 ≤ (m - d) / bendI xs := Int.ediv_nonneg (by omega) (by omega)
        have q1 : (m - d) / bendI xs ≤ m - d := Int.ediv_le_self _ (by omega)
        have HF := Lib.hid (show fLeft xs d m = (min 1000000 ((m - d) / bendI xs), 0) by simp [fLeft, hs, hd, hm, hdm, hz])
        have hpos : 0 < bendI xs := by omega
        clear hz
        go_enter Try.func41, Try.ntmps41
        go_wp2_with
          (first
            | (go_at_call 81; (apply Calls.mono; focus ((apply (areSheaves_c _ _ xs hn)); (all_goals (first | (with_reducible assumption) | omega | (repeat (first | (with_reducible assumption) | (with_reducible exact RowI.new _ _ _) | ((with_reducible refine RowI.new_at ?_); (simp; done)) | (with_reducible refine RowI.drewN ?_ _) | (with_reducible refine RowI.alloc ?_ _) | (with_reducible refine RowI.below ?_ (by with_reducible assumption)))))); done)); rintro e w' ⟨rfl, rfl⟩)
            | (go_at_call 48; go_call (within_c _ _ _ _); rintro e w' ⟨rfl, rfl⟩)
            | (go_at_call 83; (apply Calls.mono; focus ((apply (bendings_c _ _ xs hs)); (all_goals (first | (with_reducible assumption) | omega | (repeat (first | (with_reducible assumption) | (with_reducible exact RowI.new _ _ _) | ((with_reducible refine RowI.new_at ?_); (simp; done)) | (with_reducible refine RowI.drewN ?_ _) | (with_reducible refine RowI.alloc ?_ _) | (with_reducible refine RowI.below ?_ (by with_reducible assumption)))))); done)); rintro e w' ⟨rfl, rfl⟩))
        all_goals
          go_ret2
          exact ⟨by rw [HF.out]; first | rfl | (simp; done) | (simp; omega), rfl⟩
  all_goals
    go_enter Try.func41, Try.ntmps41
    go_wp2_with
      (first
        | (go_at_call 81; (apply Calls.mono; focus ((apply (areSheaves_c _ _ xs hn)); (all_goals (first | (with_reducible assumption) | omega | (repeat (first | (with_reducible assumption) | (with_reducible exact RowI.new _ _ _) | ((with_reducible refine RowI.new_at ?_); (simp; done)) | (with_reducible refine RowI.drewN ?_ _) | (with_reducible refine RowI.alloc ?_ _) | (with_reducible refine RowI.below ?_ (by with_reducible assumption)))))); done)); rintro e w' ⟨rfl, rfl⟩)
        | (go_at_call 48; go_call (within_c _ _ _ _); rintro e w' ⟨rfl, rfl⟩)
        | (go_at_call 83; (apply Calls.mono; focus ((apply (bendings_c _ _ xs hs)); (all_goals (first | (with_reducible assumption) | omega | (repeat (first | (with_reducible assumption) | (with_reducible exact RowI.new _ _ _) | ((with_reducible refine RowI.new_at ?_); (simp; done)) | (with_reducible refine RowI.drewN ?_ _) | (with_reducible refine RowI.alloc ?_ _) | (with_reducible refine RowI.below ?_ (by with_reducible assumption)))))); done)); rintro e w' ⟨rfl, rfl⟩))
    go_ret2
    exact ⟨by simp [fLeft, hs, hd, hm], rfl⟩
theorem specBendsLeft_c (A : Option Addr) (c : Nat) (xs : List Int) (d m : Int) (hn : xs.length ≤ 1048576) (w : World) (hr : RowI w A xs) : Calls Try.prog 40 #[.slice A xs.length c, .int .i64 d, .int .i64 m] w fun e w' => e = .returned (.tuple #[.int .i64 (fLeft xs d m).1, .int .i64 (fLeft xs d m).2]) ∧ w = w' := by
  cases hs : shB xs <;> cases hd : inB d 0 1000000000000 <;> cases hm : inB m 0 1000000000000
  rotate_left 7
  · obtain ⟨hn', hall⟩ := shB_true hs
    have HB := sum_bend hall xs.length (by omega)
    clear hall
    obtain ⟨d0, d1⟩ := inB_true hd
    obtain ⟨m0, m1⟩ := inB_true hm
    have hb : bendTo xs xs.length = bendI xs := rfl
    rw [hb] at HB
    clear hb
    obtain ⟨B0, B1⟩ := HB
    by_cases hdm : m < d
    · have HF := Lib.hid (show fLeft xs d m = (0, 6) by simp [fLeft, hs, hd, hm, hdm])
      go_enter Try.func40, Try.ntmps40
      go_wp2_with
        (first
          | (go_at_call 78; (apply Calls.mono; focus ((apply (l06Sheaves_c _ _ xs hn)); (all_goals (first | (with_reducible assumption) | omega | (repeat (first | (with_reducible assumption) | (with_reducible exact RowI.new _ _ _) | ((with_reducible refine RowI.new_at ?_); (simp; done)) | (with_reducible refine RowI.drewN ?_ _) | (with_reducible refine RowI.alloc ?_ _) | (with_reducible refine RowI.below ?_ (by with_reducible assumption)))))); done)); rintro e w' ⟨rfl, rfl⟩)
          | (go_at_call 44; go_call (l00In_c _ _ _ _); rintro e w' ⟨rfl, rfl⟩)
          | (go_at_call 59; go_call (l00Min_c _ _ _); rintro e w' ⟨rfl, rfl⟩)
          | (go_at_call 80; (apply Calls.mono; focus ((apply (l06Each_c _ _ xs hs)); (all_goals (first | (with_reducible assumption) | omega | (repeat (first | (with_reducible assumption) | (with_reducible exact RowI.new _ _ _) | ((with_reducible refine RowI.new_at ?_); (simp; done)) | (with_reducible refine RowI.drewN ?_ _) | (with_reducible refine RowI.alloc ?_ _) | (with_reducible refine RowI.below ?_ (by with_reducible assumption)))))); done)); rintro e w' ⟨rfl, rfl⟩))
      go_ret2
      exact ⟨by rw [HF.out]; rfl, rfl⟩
    · by_cases hz : bendI xs = 0
      · have hz' : (bendI xs == 0) = true := by simp [hz]
        have HF := Lib.hid (show fLeft xs d m = (1000000, 0) by simp [fLeft, hs, hd, hm, hdm, hz])
        clear hz
        go_enter Try.func40, Try.ntmps40
        go_wp2_with
          (first
            | (go_at_call 78; (apply Calls.mono; focus ((apply (l06Sheaves_c _ _ xs hn)); (all_goals (first | (with_reducible assumption) | omega | (repeat (first | (with_reducible assumption) | (with_reducible exact RowI.new _ _ _) | ((with_reducible refine RowI.new_at ?_); (simp; done)) | (with_reducible refine RowI.drewN ?_ _) | (with_reducible refine RowI.alloc ?_ _) | (with_reducible refine RowI.below ?_ (by with_reducible assumption)))))); done)); rintro e w' ⟨rfl, rfl⟩)
            | (go_at_call 44; go_call (l00In_c _ _ _ _); rintro e w' ⟨rfl, rfl⟩)
            | (go_at_call 59; go_call (l00Min_c _ _ _); rintro e w' ⟨rfl, rfl⟩)
            | (go_at_call 80; (apply Calls.mono; focus ((apply (l06Each_c _ _ xs hs)); (all_goals (first | (with_reducible assumption) | omega | (repeat (first | (with_reducible assumption) | (with_reducible exact RowI.new _ _ _) | ((with_reducible refine RowI.new_at ?_); (simp; done)) | (with_reducible refine RowI.drewN ?_ _) | (with_reducible refine RowI.alloc ?_ _) | (with_reducible refine RowI.below ?_ (by with_reducible assumption)))))); done)); rintro e w' ⟨rfl, rfl⟩))
        go_ret2
        exact ⟨by rw [HF.out]; rfl, rfl⟩
      · have hz' : (bendI xs == 0) = false := by simp [hz]
        have q0 : 0 ≤ (m - d) / bendI xs := Int.ediv_nonneg (by omega) (by omega)
        have q1 : (m - d) / bendI xs ≤ m - d := Int.ediv_le_self _ (by omega)
        have HF := Lib.hid (show fLeft xs d m = (min 1000000 ((m - d) / bendI xs), 0) by simp [fLeft, hs, hd, hm, hdm, hz])
        have hpos : 0 < bendI xs := by omega
        clear hz
        go_enter Try.func40, Try.ntmps40
        go_wp2_with
          (first
            | (go_at_call 78; (apply Calls.mono; focus ((apply (l06Sheaves_c _ _ xs hn)); (all_goals (first | (with_reducible assumption) | omega | (repeat (first | (with_reducible assumption) | (with_reducible exact RowI.new _ _ _) | ((with_reducible refine RowI.new_at ?_); (simp; done)) | (with_reducible refine RowI.drewN ?_ _) | (with_reducible refine RowI.alloc ?_ _) | (with_reducible refine RowI.below ?_ (by with_reducible assumption)))))); done)); rintro e w' ⟨rfl, rfl⟩)
            | (go_at_call 44; go_call (l00In_c _ _ _ _); rintro e w' ⟨rfl, rfl⟩)
            | (go_at_call 59; go_call (l00Min_c _ _ _); rintro e w' ⟨rfl, rfl⟩)
            | (go_at_call 80; (apply Calls.mono; focus ((apply (l06Each_c _ _ xs hs)); (all_goals (first | (with_reducible assumption) | omega | (repeat (first | (with_reducible assumption) | (with_reducible exact RowI.new _ _ _) | ((with_reducible refine RowI.new_at ?_); (simp; done)) | (with_reducible refine RowI.drewN ?_ _) | (with_reducible refine RowI.alloc ?_ _) | (with_reducible refine RowI.below ?_ (by with_reducible assumption)))))); done)); rintro e w' ⟨rfl, rfl⟩))
        all_goals
          go_ret2
          exact ⟨by rw [HF.out]; first | rfl | (simp; done) | (simp; omega), rfl⟩
  all_goals
    go_enter Try.func40, Try.ntmps40
    go_wp2_with
      (first
        | (go_at_call 78; (apply Calls.mono; focus ((apply (l06Sheaves_c _ _ xs hn)); (all_goals (first | (with_reducible assumption) | omega | (repeat (first | (with_reducible assumption) | (with_reducible exact RowI.new _ _ _) | ((with_reducible refine RowI.new_at ?_); (simp; done)) | (with_reducible refine RowI.drewN ?_ _) | (with_reducible refine RowI.alloc ?_ _) | (with_reducible refine RowI.below ?_ (by with_reducible assumption)))))); done)); rintro e w' ⟨rfl, rfl⟩)
        | (go_at_call 44; go_call (l00In_c _ _ _ _); rintro e w' ⟨rfl, rfl⟩)
        | (go_at_call 59; go_call (l00Min_c _ _ _); rintro e w' ⟨rfl, rfl⟩)
        | (go_at_call 80; (apply Calls.mono; focus ((apply (l06Each_c _ _ xs hs)); (all_goals (first | (with_reducible assumption) | omega | (repeat (first | (with_reducible assumption) | (with_reducible exact RowI.new _ _ _) | ((with_reducible refine RowI.new_at ?_); (simp; done)) | (with_reducible refine RowI.drewN ?_ _) | (with_reducible refine RowI.alloc ?_ _) | (with_reducible refine RowI.below ?_ (by with_reducible assumption)))))); done)); rintro e w' ⟨rfl, rfl⟩))
    go_ret2
    exact ⟨by simp [fLeft, hs, hd, hm], rfl⟩
theorem walk_FnExactBendsLeft (A : Option Addr) (n c : Nat) (z : List Int) (x y : Int) (w : World) (h : IntArg w A n z) (_ : I64 x) (_ : I64 y) : Calls Try.prog 13 #[.slice A n c, .int .i64 x, .int .i64 y] w fun e w' => e = .returned (.bool true) ∧ Below w.heap.size w w' := by
  obtain ⟨rfl, hmax, hr, hz⟩ := h
  clear hz
  by_cases hn : z.length ≤ 1048576
  · go_enter Try.func13, Try.ntmps13
    go_wp2_with
      (first
        | (go_at_call 23; (apply Calls.mono; focus ((apply (toInt64S_c _ _ z hn)); (all_goals (first | (with_reducible assumption) | omega | (repeat (first | (with_reducible assumption) | (with_reducible exact RowI.new _ _ _) | ((with_reducible refine RowI.new_at ?_); (simp; done)) | (with_reducible refine RowI.drewN ?_ _) | (with_reducible refine RowI.alloc ?_ _) | (with_reducible refine RowI.below ?_ (by with_reducible assumption)))))); done)); rintro e w' ⟨rfl, rfl⟩)
        | (go_at_call 40; (apply Calls.mono; focus ((apply (specBendsLeft_c _ _ z _ _ hn)); (all_goals (first | (with_reducible assumption) | omega | (repeat (first | (with_reducible assumption) | (with_reducible exact RowI.new _ _ _) | ((with_reducible refine RowI.new_at ?_); (simp; done)) | (with_reducible refine RowI.drewN ?_ _) | (with_reducible refine RowI.alloc ?_ _) | (with_reducible refine RowI.below ?_ (by with_reducible assumption)))))); done)); rintro e w' ⟨rfl, rfl⟩)
        | (go_at_call 41; (apply Calls.mono; focus ((apply (implBendsLeft_c _ _ z _ _ hn)); (all_goals (first | (with_reducible assumption) | omega | (repeat (first | (with_reducible assumption) | (with_reducible exact RowI.new _ _ _) | ((with_reducible refine RowI.new_at ?_); (simp; done)) | (with_reducible refine RowI.drewN ?_ _) | (with_reducible refine RowI.alloc ?_ _) | (with_reducible refine RowI.below ?_ (by with_reducible assumption)))))); done)); rintro e w' ⟨rfl, rfl⟩)
        | (go_at_call 25; (apply Calls.mono; focus ((apply (eqInt64S_c _ _ _ _ z hn)); (all_goals (first | (with_reducible assumption) | omega | (repeat (first | (with_reducible assumption) | (with_reducible exact RowI.new _ _ _) | ((with_reducible refine RowI.new_at ?_); (simp; done)) | (with_reducible refine RowI.drewN ?_ _) | (with_reducible refine RowI.alloc ?_ _) | (with_reducible refine RowI.below ?_ (by with_reducible assumption)))))); done)); rintro e w' ⟨rfl, nq, rfl⟩))
    go_returns
    refine ⟨by simp, ?_⟩
    repeat' (first
      | (with_reducible exact Below.refl _ _)
      | (with_reducible assumption)
      | (with_reducible refine Below.alloc ?_ ?_ _)
      | (with_reducible refine Below.drew ?_)
      | (with_reducible refine bdrewN ?_ _)
      | (with_reducible refine Below.setCell ?_ ?_ _)
      | (with_reducible refine bthen (by assumption) ?_ ?_)
      | go_size)
  · go_enter Try.func13, Try.ntmps13
    go_wp2
    go_returns
    refine ⟨by simp, ?_⟩
    repeat' (first
      | (with_reducible exact Below.refl _ _)
      | (with_reducible assumption)
      | (with_reducible refine Below.alloc ?_ ?_ _)
      | (with_reducible refine Below.drew ?_)
      | (with_reducible refine bdrewN ?_ _)
      | (with_reducible refine Below.setCell ?_ ?_ _)
      | (with_reducible refine bthen (by assumption) ?_ ?_)
      | go_size)
end Go.Proofs.Ytgnanppgbkngnaa
