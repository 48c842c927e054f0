/- Contracts of the functions on how warm a motor is. -/
import Derived.Test.YtbdhelekmdpbiaaB
namespace Go.Proofs.Ytbdhelekmdpbiaa
open Go.ChangeShapes Go.WideShapes Go.ChangeAt Go.RowKit
set_option linter.unusedVariables false
set_option linter.unusedSimpArgs false

/-- How warm a motor is after a step, and after k of them. -/
def warm1 (h c x : Int) : Int := x + h - divR ((x + h) * c) 1000
def warmF (h c : Int) : Nat → Int → Int
  | 0, x => x
  | k + 1, x => warm1 h c (warmF h c k x)
theorem divR_mul {a b : Int} (ha : 0 ≤ a) (hb : 0 < b) : divR (a * b) b = a := by
  rw [divR_nonneg (Int.mul_nonneg ha (by omega)) hb, Int.mul_emod_left, Int.mul_ediv_cancel _ (by omega), if_neg (by omega)]
  omega
theorem divR_share {x c : Int} (hx : 0 ≤ x) (c0 : 0 ≤ c) (c1 : c ≤ 1000) : 0 ≤ divR (x * c) 1000 ∧ divR (x * c) 1000 ≤ x := by
  have h0 : 0 ≤ x * c := Int.mul_nonneg hx c0
  have h1 : x * c ≤ x * 1000 := Int.mul_le_mul_of_nonneg_left c1 hx
  have h2 := divR_mono h1 (b := 1000) (by omega)
  rw [divR_mul hx (by omega)] at h2
  exact ⟨divR_pos h0 (by omega), h2⟩
theorem warm1_bd {h c x : Int} (hx : 0 ≤ x) (h0 : 0 ≤ h) (h1 : h ≤ 1000) (c0 : 0 ≤ c) (c1 : c ≤ 1000) : 0 ≤ warm1 h c x ∧ warm1 h c x ≤ x + 1000 := by
  have := divR_share (show 0 ≤ x + h by omega) c0 c1
  unfold warm1
  omega
theorem warmF_bd {h c x : Int} (hx : 0 ≤ x) (h0 : 0 ≤ h) (h1 : h ≤ 1000) (c0 : 0 ≤ c) (c1 : c ≤ 1000) (k : Nat) : 0 ≤ warmF h c k x ∧ warmF h c k x ≤ x + 1000 * k := by
  induction k with
  | zero => simp [warmF]; omega
  | succ k ih =>
    have := warm1_bd ih.1 h0 h1 c0 c1
    rw [warmF]
    omega
def heatOk (x h c : Int) : Bool := inB x 0 100000 && inB h 0 1000 && inB c 0 1000
theorem heatOk_true {x h c : Int} (k : heatOk x h c = true) : (0 ≤ x ∧ x ≤ 100000) ∧ (0 ≤ h ∧ h ≤ 1000) ∧ (0 ≤ c ∧ c ≤ 1000) := by
  simp only [heatOk, Bool.and_eq_true] at k
  obtain ⟨⟨h0, h1⟩, h2⟩ := k
  exact ⟨inB_true h0, inB_true h1, inB_true h2⟩
/-- The first of the steps from k on, n of them, after which it is warmer than l. -/
def hotF (h c l x : Int) : Nat → Nat → Int × Int
  | 0, _ => (0, 3)
  | n + 1, k => if l < warmF h c k x then ((k : Int), 0) else hotF h c l x n (k + 1)
def fHot (x h c l : Int) : Int × Int := if heatOk x h c && inB l 0 1000000 then hotF h c l x 61 0 else (0, 2)
def fHeat (x h c s : Int) : Int × Int := if heatOk x h c && inB s 0 60 then (warmF h c s.toNat x, 0) else (0, 2)
theorem isShare_c (n : Int) (w : World) : Calls Try.prog 16 #[.int .i64 n] w fun e w' => e = .returned (.bool (inB n 0 1000)) ∧ w = w' := by
  go_enter Try.func16, Try.ntmps16
  go_wp2_with
    (first
      | (go_at_call 15; go_call (within_c _ _ _ _); rintro e w' ⟨rfl, rfl⟩))
  all_goals (go_ret; simp [*])
theorem l10Share_c (n : Int) (w : World) : Calls Try.prog 10 #[.int .i64 n] w fun e w' => e = .returned (.bool (inB n 0 1000)) ∧ w = w' := by
  go_enter Try.func10, Try.ntmps10
  go_wp2_with
    (first
      | (go_at_call 11; go_call (l00In_c _ _ _ _); rintro e w' ⟨rfl, rfl⟩))
  all_goals (go_ret; simp [*])
end Go.Proofs.Ytbdhelekmdpbiaa
