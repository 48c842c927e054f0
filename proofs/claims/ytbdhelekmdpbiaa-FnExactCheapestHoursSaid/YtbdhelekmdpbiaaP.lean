/- Plain definitions and lemmas: what the program's functions compute, with no program in sight. No conditions beyond those that each lemma states. -/
import Derived.WalkKit
namespace Go.Proofs.Ytbdhelekmdpbiaa
set_option linter.unusedVariables false
set_option linter.unusedSimpArgs false

/-- n lies from lo to hi. -/
def inB (n lo hi : Int) : Bool := decide (lo ≤ n) && decide (n ≤ hi)
theorem inB_true {n lo hi : Int} (h : inB n lo hi = true) : lo ≤ n ∧ n ≤ hi := by
  unfold inB at h
  simpa using h
theorem inB_of {n lo hi : Int} (h : lo ≤ n) (k : n ≤ hi) : inB n lo hi = true := by
  unfold inB
  simp [h, k]

/-- The absolute value. -/
def absI (n : Int) : Int := if n < 0 then -n else n
theorem absI_nonneg (n : Int) : 0 ≤ absI n := by unfold absI; split <;> omega
theorem absI_of_nonneg {n : Int} (h : 0 ≤ n) : absI n = n := by unfold absI; rw [if_neg (by omega)]
theorem absI_of_neg {n : Int} (h : n < 0) : absI n = -n := by unfold absI; rw [if_pos h]

/-- The nearest integer to a / b for a positive b, halves away from 0. -/
def divR (a b : Int) : Int := if a < 0 then -((b - 2 * a) / (2 * b)) else (2 * a + b) / (2 * b)

theorem half_up (a b : Int) (hb : 0 < b) : (2 * a + b) / (2 * b) = a / b + (if b ≤ 2 * (a % b) then 1 else 0) := by
  have h1 : a = b * (a / b) + a % b := (Int.mul_ediv_add_emod a b).symm
  have h2 : 0 ≤ a % b := Int.emod_nonneg _ (by omega)
  have h3 : a % b < b := Int.emod_lt_of_pos _ hb
  have e : 2 * a + b = (2 * (a % b) + b) + (a / b) * (2 * b) := by
    have : (a / b) * (2 * b) = 2 * (b * (a / b)) := by rw [Int.mul_comm b, Int.mul_left_comm]
    omega
  rw [e, Int.add_mul_ediv_right _ _ (by omega)]
  split
  · have : (2 * (a % b) + b) / (2 * b) = 1 := by
      rw [Int.ediv_eq_iff_of_pos (by omega)]
      omega
    omega
  · have : (2 * (a % b) + b) / (2 * b) = 0 := Int.ediv_eq_zero_of_lt (by omega) (by omega)
    omega
theorem divR_nonneg {a b : Int} (ha : 0 ≤ a) (hb : 0 < b) : divR a b = a / b + (if b ≤ 2 * (a % b) then 1 else 0) := by
  unfold divR
  rw [if_neg (by omega), half_up a b hb]
theorem divR_neg {a b : Int} (ha : a < 0) : divR a b = -divR (-a) b := by
  unfold divR
  rw [if_pos ha, if_neg (by omega)]
  congr 2
  omega
theorem divR_pos {a b : Int} (ha : 0 ≤ a) (hb : 0 < b) : 0 ≤ divR a b := by
  unfold divR
  rw [if_neg (by omega)]
  exact Int.ediv_nonneg (by omega) (by omega)
theorem divR_le {a b : Int} (ha : 0 ≤ a) (hb : 0 < b) : divR a b ≤ a := by
  unfold divR
  rw [if_neg (by omega)]
  rcases Int.lt_or_eq_of_le ha with h | h
  · have : (2 * a + b) / (2 * b) < a + 1 := by
      refine Int.ediv_lt_of_lt_mul (by omega) ?_
      have h5 : (a + 1) * (2 * b) = 2 * (a * b) + 2 * b := by rw [Int.add_mul, Int.mul_left_comm]; omega
      have h6 : a * 1 ≤ a * b := Int.mul_le_mul_of_nonneg_left (by omega) ha
      omega
    omega
  · subst h
    have : (2 * 0 + b) / (2 * b) = 0 := Int.ediv_eq_zero_of_lt (by omega) (by omega)
    omega
theorem divR_mono {a c b : Int} (h : a ≤ c) (hb : 0 < b) : divR a b ≤ divR c b := by
  unfold divR
  split
  · split
    · have := Int.ediv_le_ediv (c := 2 * b) (by omega) (show b - 2 * c ≤ b - 2 * a by omega)
      omega
    · have h1 : 0 ≤ (b - 2 * a) / (2 * b) := Int.ediv_nonneg (by omega) (by omega)
      have h2 : 0 ≤ (2 * c + b) / (2 * b) := Int.ediv_nonneg (by omega) (by omega)
      omega
  · rw [if_neg (by omega)]
    exact Int.ediv_le_ediv (by omega) (by omega)
theorem divR_bd {a b A : Int} (h1 : -A ≤ a) (h2 : a ≤ A) (hb : 0 < b) : -A ≤ divR a b ∧ divR a b ≤ A := by
  by_cases h : a < 0
  · rw [divR_neg h]
    have := divR_le (show 0 ≤ -a by omega) hb
    have := divR_pos (show 0 ≤ -a by omega) hb
    omega
  · have := divR_le (show 0 ≤ a by omega) hb
    have := divR_pos (show 0 ≤ a by omega) hb
    omega
theorem mul_bd {a b A B : Int} (h0 : 0 ≤ a) (h1 : a ≤ A) (k0 : 0 ≤ b) (k1 : b ≤ B) : 0 ≤ a * b ∧ a * b ≤ A * B :=
  ⟨Int.mul_nonneg h0 k0, Int.mul_le_mul h1 k1 k0 (by omega)⟩

/-- a rounded up division for a that is not negative. -/
def ceilD (a b : Int) : Int := (a + b - 1) / b


/-- The code of something valid or not, and of numbers in range or not. -/
def codeOf (ok fine : Bool) : Int := if ok then (if fine then 0 else 2) else 1
@[simp, go_sem] theorem codeOf_tt : codeOf true true = 0 := rfl
@[simp, go_sem] theorem codeOf_tf : codeOf true false = 2 := rfl
@[simp, go_sem] theorem codeOf_f (b : Bool) : codeOf false b = 1 := rfl

theorem tdiv_bd {t A : Int} (h : -(1000 * A) ≤ t) (k : t ≤ 1000 * A) : -A ≤ t.tdiv 1000 ∧ t.tdiv 1000 ≤ A := by
  by_cases h0 : 0 ≤ t
  · rw [Int.tdiv_eq_ediv_of_nonneg h0]
    omega
  · have e : t.tdiv 1000 = -((-t) / 1000) := by
      have h5 := Int.neg_tdiv (a := -t) (b := 1000)
      rw [Int.neg_neg] at h5
      rw [h5, Int.tdiv_eq_ediv_of_nonneg (by omega)]
    rw [e]
    omega
theorem mul_bd2 {f v F V : Int} (h0 : -F ≤ f) (h1 : f ≤ F) (k0 : 0 ≤ v) (k1 : v ≤ V) : -(F * V) ≤ f * v ∧ f * v ≤ F * V := by
  by_cases h : 0 ≤ f
  · have := mul_bd h h1 k0 k1
    omega
  · have := mul_bd (show 0 ≤ -f by omega) (show -f ≤ F by omega) k0 k1
    rw [Int.neg_mul] at this
    omega

end Go.Proofs.Ytbdhelekmdpbiaa
