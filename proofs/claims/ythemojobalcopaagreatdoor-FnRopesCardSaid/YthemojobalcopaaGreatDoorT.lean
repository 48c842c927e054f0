/- Contracts of the functions on sheaves. -/
import Derived.Test.YthemojobalcopaaGreatDoorF
namespace Go.Proofs.YthemojobalcopaaGreatDoor
open Go.ChangeShapes Go.WideShapes Go.ChangeAt Go.RowKit
set_option linter.unusedVariables false
set_option linter.unusedSimpArgs false

/-- The bendings at the first k sheaves. -/
def bendTo (xs : List Int) : Nat → Int
  | 0 => 0
  | k + 1 => bendTo xs k + 1000000 / nth xs k
def bendI (xs : List Int) : Int := bendTo xs xs.length
theorem one_bend {x : Int} (h : 100 ≤ x ∧ x ≤ 10000) : 100 ≤ 1000000 / x ∧ 1000000 / x ≤ 10000 := by
  constructor
  · exact (Int.le_ediv_iff_mul_le (by omega)).2 (by omega)
  · have := Int.ediv_lt_of_lt_mul (show 0 < x by omega) (show (1000000 : Int) < 10001 * x by omega)
    omega
theorem sum_bend {xs : List Int} (h : ∀ x ∈ xs, 100 ≤ x ∧ x ≤ 10000) (k : Nat) (hk : k ≤ xs.length) : 0 ≤ bendTo xs k ∧ bendTo xs k ≤ 10000 * k := by
  induction k with
  | zero => simp [bendTo]
  | succ k ih =>
    have h1 := ih (by omega)
    have h2 := one_bend (h _ (nth_mem (show k < xs.length by omega)))
    rw [bendTo]
    omega
def fLeft (xs : List Int) (d m : Int) : Int × Int := if shB xs && inB d 0 1000000000000 && inB m 0 1000000000000 then (if m < d then (0, 6) else if bendI xs = 0 then (1000000, 0) else (min 1000000 ((m - d) / bendI xs), 0)) else (0, 2)
def fBend (xs : List Int) (r : Int) : Int × Int := if shB xs && inB r 0 1000000 then (bendI xs * r, 0) else (0, 2)
theorem isRides_c (n : Int) (w : World) : Calls Tryz.prog 31 #[.int .i64 n] w fun e w' => e = .returned (.bool (inB n 0 1000000)) ∧ w = w' := by
  go_enter Tryz.func31, Tryz.ntmps31
  go_wp2_with
    (first
      | (go_at_call 24; go_call (within_c _ _ _ _); rintro e w' ⟨rfl, rfl⟩))
  all_goals (go_ret; simp [*])
theorem bendings_c (A : Option Addr) (c : Nat) (xs : List Int) (hs : shB xs = true) (w : World) (hr : RowI w A xs) : Calls Tryz.prog 30 #[.slice A xs.length c] w fun e w' => e = .returned (.int .i64 (bendI xs)) ∧ w = w' := by
  obtain ⟨hn, hx⟩ := shB_true hs
  have HX := Lib.hid hx
  clear hx hs
  go_enter Tryz.func30, Tryz.ntmps30
  go_wp2
  go_loop [3, 8] (fun s v => ∃ k : Nat, k ≤ xs.length ∧ v = .int .i64 k ∧ s = .int .i64 (bendTo xs k)) (fun _ v => xs.length - (intOf v).toNat)
  case atStart => exact ⟨0, by omega, rfl, rfl⟩
  case round =>
    obtain ⟨k, hk, rfl, rfl⟩ := hrel
    obtain ⟨b0, b1⟩ := sum_bend HX.out k hk
    by_cases hlt : k < xs.length
    · obtain ⟨b, off, rfl, hb, hc⟩ := hr.at_ hlt
      obtain ⟨x0, x1⟩ := HX.out _ (nth_mem hlt)
      obtain ⟨y0, y1⟩ := one_bend ⟨x0, x1⟩
      go_wp2
      go_round
      case rel => exact ⟨k + 1, by omega, by go_num, rfl⟩
      case measure => simp [intOf]; omega
    · go_wp2
      go_ret
      obtain rfl : k = xs.length := by omega
      exact ⟨rfl, rfl⟩
theorem implBendingsAfter_c (A : Option Addr) (c : Nat) (xs : List Int) (x : Int) (hn : xs.length ≤ 1048576) (w : World) (hr : RowI w A xs) : Calls Tryz.prog 10 #[.slice A xs.length c, .int .i64 x] w fun e w' => e = .returned (.tuple #[.int .i64 (fBend xs x).1, .int .i64 (fBend xs x).2]) ∧ w = w' := by
  cases hs : shB xs <;> cases hx : inB x 0 1000000
  rotate_left 3
  · obtain ⟨hn', hall⟩ := shB_true hs
    have HB := sum_bend hall xs.length (by omega)
    clear hall
    obtain ⟨x0, x1⟩ := inB_true hx
    obtain ⟨m0, m1⟩ := mul_bd HB.1 (show bendTo xs xs.length ≤ 120000 by omega) x0 x1
    have hb : bendTo xs xs.length = bendI xs := rfl
    rw [hb] at HB m0 m1
    clear hb
    obtain ⟨B0, B1⟩ := HB
    have e1 : x * bendI xs = bendI xs * x := Int.mul_comm _ _
    go_enter Tryz.func10, Tryz.ntmps10
    go_wp2_with
      (first
        | (go_at_call 29; (apply Calls.mono; focus ((apply (areSheaves_c _ _ xs hn)); (all_goals (first | (with_reducible assumption) | omega | (repeat (first | (with_reducible assumption) | (with_reducible exact RowI.new _ _ _) | ((with_reducible refine RowI.new_at ?_); (simp; done)) | (with_reducible refine RowI.drewN ?_ _) | (with_reducible refine RowI.drew ?_) | (with_reducible refine RowI.alloc ?_ _) | (with_reducible refine RowI.below ?_ (by with_reducible assumption)) | (simp [*]; done))))); done)); rintro e w' ⟨rfl, rfl⟩)
        | (go_at_call 31; go_call (isRides_c _ _); rintro e w' ⟨rfl, rfl⟩)
        | (go_at_call 30; (apply Calls.mono; focus ((apply (bendings_c _ _ xs hs)); (all_goals (first | (with_reducible assumption) | omega | (repeat (first | (with_reducible assumption) | (with_reducible exact RowI.new _ _ _) | ((with_reducible refine RowI.new_at ?_); (simp; done)) | (with_reducible refine RowI.drewN ?_ _) | (with_reducible refine RowI.drew ?_) | (with_reducible refine RowI.alloc ?_ _) | (with_reducible refine RowI.below ?_ (by with_reducible assumption)) | (simp [*]; done))))); done)); rintro e w' ⟨rfl, rfl⟩))
    go_ret2
    exact ⟨by simp [fBend, hs, hx], rfl⟩
  all_goals
    go_enter Tryz.func10, Tryz.ntmps10
    go_wp2_with
      (first
        | (go_at_call 29; (apply Calls.mono; focus ((apply (areSheaves_c _ _ xs hn)); (all_goals (first | (with_reducible assumption) | omega | (repeat (first | (with_reducible assumption) | (with_reducible exact RowI.new _ _ _) | ((with_reducible refine RowI.new_at ?_); (simp; done)) | (with_reducible refine RowI.drewN ?_ _) | (with_reducible refine RowI.drew ?_) | (with_reducible refine RowI.alloc ?_ _) | (with_reducible refine RowI.below ?_ (by with_reducible assumption)) | (simp [*]; done))))); done)); rintro e w' ⟨rfl, rfl⟩)
        | (go_at_call 31; go_call (isRides_c _ _); rintro e w' ⟨rfl, rfl⟩)
        | (go_at_call 30; (apply Calls.mono; focus ((apply (bendings_c _ _ xs hs)); (all_goals (first | (with_reducible assumption) | omega | (repeat (first | (with_reducible assumption) | (with_reducible exact RowI.new _ _ _) | ((with_reducible refine RowI.new_at ?_); (simp; done)) | (with_reducible refine RowI.drewN ?_ _) | (with_reducible refine RowI.drew ?_) | (with_reducible refine RowI.alloc ?_ _) | (with_reducible refine RowI.below ?_ (by with_reducible assumption)) | (simp [*]; done))))); done)); rintro e w' ⟨rfl, rfl⟩))
    go_ret2
    exact ⟨by simp [fBend, hs, hx], rfl⟩
theorem implBendsLeft_c (A : Option Addr) (c : Nat) (xs : List Int) (d m : Int) (hn : xs.length ≤ 1048576) (w : World) (hr : RowI w A xs) : Calls Tryz.prog 9 #[.slice A xs.length c, .int .i64 d, .int .i64 m] w fun e w' => e = .returned (.tuple #[.int .i64 (fLeft xs d m).1, .int .i64 (fLeft xs d m).2]) ∧ w = w' := by
  cases hs : shB xs <;> cases hd : inB d 0 1000000000000 <;> cases hm : inB m 0 1000000000000
  rotate_left 7
  · obtain ⟨hn', hall⟩ := shB_true hs
    have HB := sum_bend hall xs.length (by omega)
    clear hall
    obtain ⟨d0, d1⟩ := inB_true hd
    obtain ⟨m0, m1⟩ := inB_true hm
    have hb : bendTo xs xs.length = bendI xs := rfl
    rw [hb] at HB
    clear hb
    obtain ⟨B0, B1⟩ := HB
    by_cases hdm : m < d
    · have HF := Lib.hid (show fLeft xs d m = (0, 6) by simp [fLeft, hs, hd, hm, hdm])
      go_enter Tryz.func9, Tryz.ntmps9
      go_wp2_with
        (first
          | (go_at_call 29; (apply Calls.mono; focus ((apply (areSheaves_c _ _ xs hn)); (all_goals (first | (with_reducible assumption) | omega | (repeat (first | (with_reducible assumption) | (with_reducible exact RowI.new _ _ _) | ((with_reducible refine RowI.new_at ?_); (simp; done)) | (with_reducible refine RowI.drewN ?_ _) | (with_reducible refine RowI.drew ?_) | (with_reducible refine RowI.alloc ?_ _) | (with_reducible refine RowI.below ?_ (by with_reducible assumption)) | (simp [*]; done))))); done)); rintro e w' ⟨rfl, rfl⟩)
          | (go_at_call 24; go_call (within_c _ _ _ _); rintro e w' ⟨rfl, rfl⟩)
          | (go_at_call 30; (apply Calls.mono; focus ((apply (bendings_c _ _ xs hs)); (all_goals (first | (with_reducible assumption) | omega | (repeat (first | (with_reducible assumption) | (with_reducible exact RowI.new _ _ _) | ((with_reducible refine RowI.new_at ?_); (simp; done)) | (with_reducible refine RowI.drewN ?_ _) | (with_reducible refine RowI.drew ?_) | (with_reducible refine RowI.alloc ?_ _) | (with_reducible refine RowI.below ?_ (by with_reducible assumption)) | (simp [*]; done))))); done)); rintro e w' ⟨rfl, rfl⟩))
      go_ret2
      exact ⟨by rw [HF.out]; rfl, rfl⟩
    · by_cases hz : bendI xs = 0
      · have hz' : (bendI xs == 0) = true := by simp [hz]
        have HF := Lib.hid (show fLeft xs d m = (1000000, 0) by simp [fLeft, hs, hd, hm, hdm, hz])
        clear hz
        go_enter Tryz.func9, Tryz.ntmps9
        go_wp2_with
          (first
            | (go_at_call 29; (apply Calls.mono; focus ((apply (areSheaves_c _ _ xs hn)); (all_goals (first | (with_reducible assumption) | omega | (repeat (first | (with_reducible assumption) | (with_reducible exact RowI.new _ _ _) | ((with_reducible refine RowI.new_at ?_); (simp; done)) | (with_reducible refine RowI.drewN ?_ _) | (with_reducible refine RowI.drew ?_) | (with_reducible refine RowI.alloc ?_ _) | (with_reducible refine RowI.below ?_ (by with_reducible assumption)) | (simp [*]; done))))); done)); rintro e w' ⟨rfl, rfl⟩)
            | (go_at_call 24; go_call (within_c _ _ _ _); rintro e w' ⟨rfl, rfl⟩)
            | (go_at_call 30; (apply Calls.mono; focus ((apply (bendings_c _ _ xs hs)); (all_goals (first | (with_reducible assumption) | omega | (repeat (first | (with_reducible assumption) | (with_reducible exact RowI.new _ _ _) | ((with_reducible refine RowI.new_at ?_); (simp; done)) | (with_reducible refine RowI.drewN ?_ _) | (with_reducible refine RowI.drew ?_) | (with_reducible refine RowI.alloc ?_ _) | (with_reducible refine RowI.below ?_ (by with_reducible assumption)) | (simp [*]; done))))); done)); rintro e w' ⟨rfl, rfl⟩))
        go_ret2
        exact ⟨by rw [HF.out]; rfl, rfl⟩
      · have hz' : (bendI xs == 0) = false := by simp [hz]
        have q0 : 0 ≤ (m - d) / bendI xs := Int.ediv_nonneg (by omega) (by omega)
        have q1 : (m - d) / bendI xs ≤ m - d := Int.ediv_le_self _ (by omega)
        have HF := Lib.hid (show fLeft xs d m = (min 1000000 ((m - d) / bendI xs), 0) by simp [fLeft, hs, hd, hm, hdm, hz])
        have hpos : 0 < bendI xs := by omega
        clear hz
        go_enter Tryz.func9, Tryz.ntmps9
        go_wp2_with
          (first
            | (go_at_call 29; (apply Calls.mono; focus ((apply (areSheaves_c _ _ xs hn)); (all_goals (first | (with_reducible assumption) | omega | (repeat (first | (with_reducible assumption) | (with_reducible exact RowI.new _ _ _) | ((with_reducible refine RowI.new_at ?_); (simp; done)) | (with_reducible refine RowI.drewN ?_ _) | (with_reducible refine RowI.drew ?_) | (with_reducible refine RowI.alloc ?_ _) | (with_reducible refine RowI.below ?_ (by with_reducible assumption)) | (simp [*]; done))))); done)); rintro e w' ⟨rfl, rfl⟩)
            | (go_at_call 24; go_call (within_c _ _ _ _); rintro e w' ⟨rfl, rfl⟩)
            | (go_at_call 30; (apply Calls.mono; focus ((apply (bendings_c _ _ xs hs)); (all_goals (first | (with_reducible assumption) | omega | (repeat (first | (with_reducible assumption) | (with_reducible exact RowI.new _ _ _) | ((with_reducible refine RowI.new_at ?_); (simp; done)) | (with_reducible refine RowI.drewN ?_ _) | (with_reducible refine RowI.drew ?_) | (with_reducible refine RowI.alloc ?_ _) | (with_reducible refine RowI.below ?_ (by with_reducible assumption)) | (simp [*]; done))))); done)); rintro e w' ⟨rfl, rfl⟩))
        all_goals
          go_ret2
          exact ⟨by rw [HF.out]; first | rfl | (simp; done) | (simp; omega), rfl⟩
  all_goals
    go_enter Tryz.func9, Tryz.ntmps9
    go_wp2_with
      (first
        | (go_at_call 29; (apply Calls.mono; focus ((apply (areSheaves_c _ _ xs hn)); (all_goals (first | (with_reducible assumption) | omega | (repeat (first | (with_reducible assumption) | (with_reducible exact RowI.new _ _ _) | ((with_reducible refine RowI.new_at ?_); (simp; done)) | (with_reducible refine RowI.drewN ?_ _) | (with_reducible refine RowI.drew ?_) | (with_reducible refine RowI.alloc ?_ _) | (with_reducible refine RowI.below ?_ (by with_reducible assumption)) | (simp [*]; done))))); done)); rintro e w' ⟨rfl, rfl⟩)
        | (go_at_call 24; go_call (within_c _ _ _ _); rintro e w' ⟨rfl, rfl⟩)
        | (go_at_call 30; (apply Calls.mono; focus ((apply (bendings_c _ _ xs hs)); (all_goals (first | (with_reducible assumption) | omega | (repeat (first | (with_reducible assumption) | (with_reducible exact RowI.new _ _ _) | ((with_reducible refine RowI.new_at ?_); (simp; done)) | (with_reducible refine RowI.drewN ?_ _) | (with_reducible refine RowI.drew ?_) | (with_reducible refine RowI.alloc ?_ _) | (with_reducible refine RowI.below ?_ (by with_reducible assumption)) | (simp [*]; done))))); done)); rintro e w' ⟨rfl, rfl⟩))
    go_ret2
    exact ⟨by simp [fLeft, hs, hd, hm], rfl⟩
end Go.Proofs.YthemojobalcopaaGreatDoor
