/- Plain definitions and lemmas: what the program's functions compute, with no program in sight. No conditions beyond those that each lemma states. -/
import Derived.WalkKit
namespace Go.Proofs.Ytcddihgdidlbkaa
set_option linter.unusedVariables false

/-- n lies from lo to hi. -/
def inB (n lo hi : Int) : Bool := decide (lo ≤ n) && decide (n ≤ hi)
theorem inB_true {n lo hi : Int} (h : inB n lo hi = true) : lo ≤ n ∧ n ≤ hi := by
  unfold inB at h
  simpa using h
theorem inB_of {n lo hi : Int} (h : lo ≤ n) (k : n ≤ hi) : inB n lo hi = true := by
  unfold inB
  simp [h, k]

/-- The absolute value. -/
def absI (n : Int) : Int := if n < 0 then -n else n
theorem absI_nonneg (n : Int) : 0 ≤ absI n := by unfold absI; split <;> omega
theorem absI_of_nonneg {n : Int} (h : 0 ≤ n) : absI n = n := by unfold absI; rw [if_neg (by omega)]
theorem absI_of_neg {n : Int} (h : n < 0) : absI n = -n := by unfold absI; rw [if_pos h]

/-- The nearest integer to a / b for a positive b, halves away from 0. -/
def divR (a b : Int) : Int := if a < 0 then -((b - 2 * a) / (2 * b)) else (2 * a + b) / (2 * b)

theorem half_up (a b : Int) (hb : 0 < b) : (2 * a + b) / (2 * b) = a / b + (if b ≤ 2 * (a % b) then 1 else 0) := by
  have h1 : a = b * (a / b) + a % b := (Int.mul_ediv_add_emod a b).symm
  have h2 : 0 ≤ a % b := Int.emod_nonneg _ (by omega)
  have h3 : a % b < b := Int.emod_lt_of_pos _ hb
  have e : 2 * a + b = (2 * (a % b) + b) + (a / b) * (2 * b) := by
    have : (a / b) * (2 * b) = 2 * (b * (a / b)) := by rw [Int.mul_comm b, Int.mul_left_comm]
    omega
  rw [e, Int.add_mul_ediv_right _ _ (by omega)]
  split
  · have : (2 * (a % b) + b) / (2 * b) = 1 := by
      rw [Int.ediv_eq_iff_of_pos (by omega)]
      omega
    omega
  · have : (2 * (a % b) + b) / (2 * b) = 0 := Int.ediv_eq_zero_of_lt (by omega) (by omega)
    omega
theorem divR_nonneg {a b : Int} (ha : 0 ≤ a) (hb : 0 < b) : divR a b = a / b + (if b ≤ 2 * (a % b) then 1 else 0) := by
  unfold divR
  rw [if_neg (by omega), half_up a b hb]
theorem divR_neg {a b : Int} (ha : a < 0) : divR a b = -divR (-a) b := by
  unfold divR
  rw [if_pos ha, if_neg (by omega)]
  congr 2
  omega
theorem divR_pos {a b : Int} (ha : 0 ≤ a) (hb : 0 < b) : 0 ≤ divR a b := by
  unfold divR
  rw [if_neg (by omega)]
  exact Int.ediv_nonneg (by omega) (by omega)
theorem divR_le {a b : Int} (ha : 0 ≤ a) (hb : 0 < b) : divR a b ≤ a := by
  unfold divR
  rw [if_neg (by omega)]
  rcases Int.lt_or_eq_of_le ha with h | h
  · have : (2 * a + b) / (2 * b) < a + 1 := by
      refine Int.ediv_lt_of_lt_mul (by omega) ?_
      have h5 : (a + 1) * (2 * b) = 2 * (a * b) + 2 * b := by rw [Int.add_mul, Int.mul_left_comm]; omega
      have h6 : a * 1 ≤ a * b := Int.mul_le_mul_of_nonneg_left (by omega) ha
      omega
    omega
  · subst h
    have : (2 * 0 + b) / (2 * b) = 0 := Int.ediv_eq_zero_of_lt (by omega) (by omega)
    omega
theorem divR_mono {a c b : Int} (h : a ≤ c) (hb : 0 < b) : divR a b ≤ divR c b := by
  unfold divR
  split
  · split
    · have := Int.ediv_le_ediv (c := 2 * b) (by omega) (show b - 2 * c ≤ b - 2 * a by omega)
      omega
    · have h1 : 0 ≤ (b - 2 * a) / (2 * b) := Int.ediv_nonneg (by omega) (by omega)
      have h2 : 0 ≤ (2 * c + b) / (2 * b) := Int.ediv_nonneg (by omega) (by omega)
      omega
  · rw [if_neg (by omega)]
    exact Int.ediv_le_ediv (by omega) (by omega)
theorem divR_bd {a b A : Int} (h1 : -A ≤ a) (h2 : a ≤ A) (hb : 0 < b) : -A ≤ divR a b ∧ divR a b ≤ A := by
  by_cases h : a < 0
  · rw [divR_neg h]
    have := divR_le (show 0 ≤ -a by omega) hb
    have := divR_pos (show 0 ≤ -a by omega) hb
    omega
  · have := divR_le (show 0 ≤ a by omega) hb
    have := divR_pos (show 0 ≤ a by omega) hb
    omega
theorem mul_bd {a b A B : Int} (h0 : 0 ≤ a) (h1 : a ≤ A) (k0 : 0 ≤ b) (k1 : b ≤ B) : 0 ≤ a * b ∧ a * b ≤ A * B :=
  ⟨Int.mul_nonneg h0 k0, Int.mul_le_mul h1 k1 k0 (by omega)⟩

/-- a rounded up division for a that is not negative. -/
def ceilD (a b : Int) : Int := (a + b - 1) / b


/-- The code of something valid or not, and of numbers in range or not. -/
def codeOf (ok fine : Bool) : Int := if ok then (if fine then 0 else 2) else 1
@[simp, go_sem] theorem codeOf_tt : codeOf true true = 0 := rfl
@[simp, go_sem] theorem codeOf_tf : codeOf true false = 2 := rfl
@[simp, go_sem] theorem codeOf_f (b : Bool) : codeOf false b = 1 := rfl

def ropeOk (a b c d : Int) : Bool := inB a 1000 4000000 && inB b 100 20000 && inB c 6 400 && inB d 1000 10000000
theorem ropeOk_true {a b c d : Int} (h : ropeOk a b c d = true) : (1000 ≤ a ∧ a ≤ 4000000) ∧ (100 ≤ b ∧ b ≤ 20000) ∧ (6 ≤ c ∧ c ≤ 400) ∧ (1000 ≤ d ∧ d ≤ 10000000) := by
  simp only [ropeOk, Bool.and_eq_true] at h
  obtain ⟨⟨⟨h0, h1⟩, h2⟩, h3⟩ := h
  exact ⟨inB_true h0, inB_true h1, inB_true h2, inB_true h3⟩
def motorOk (p m l : Int) : Bool := inB p 1000 10000000 && inB m 100 1000000 && inB l 0 500
theorem motorOk_true {p m l : Int} (h : motorOk p m l = true) : (1000 ≤ p ∧ p ≤ 10000000) ∧ (100 ≤ m ∧ m ≤ 1000000) ∧ (0 ≤ l ∧ l ≤ 500) := by
  simp only [motorOk, Bool.and_eq_true] at h
  obtain ⟨⟨h0, h1⟩, h2⟩ := h
  exact ⟨inB_true h0, inB_true h1, inB_true h2⟩
def profOk (a c r w : Int) : Bool := inB a 1 2000 && inB c 100 15000 && inB r 100 c && inB w 0 3000000
theorem profOk_true {a c r w : Int} (h : profOk a c r w = true) : (1 ≤ a ∧ a ≤ 2000) ∧ (100 ≤ c ∧ c ≤ 15000) ∧ (100 ≤ r ∧ r ≤ c) ∧ (0 ≤ w ∧ w ≤ 3000000) := by
  simp only [profOk, Bool.and_eq_true] at h
  obtain ⟨⟨⟨h0, h1⟩, h2⟩, h3⟩ := h
  exact ⟨inB_true h0, inB_true h1, inB_true h2, inB_true h3⟩
def hourOk (r d w : Int) : Bool := inB r 0 1000 && inB d (-400) 500 && inB w 0 1000
theorem hourOk_true {r d w : Int} (h : hourOk r d w = true) : (0 ≤ r ∧ r ≤ 1000) ∧ (-400 ≤ d ∧ d ≤ 500) ∧ (0 ≤ w ∧ w ≤ 1000) := by
  simp only [hourOk, Bool.and_eq_true] at h
  obtain ⟨⟨h0, h1⟩, h2⟩ := h
  exact ⟨inB_true h0, inB_true h1, inB_true h2⟩

def fReserve (a b c d pull : Int) : Int × Int := if ropeOk a b c d then (if inB pull 1 10000000 then (1000 * d / pull, 0) else (0, 2)) else (0, 1)
def fPull (a b c d reserve : Int) : Int × Int := if ropeOk a b c d then (if inB reserve 1 100000 then (min 10000000 (1000 * d / reserve), 0) else (0, 2)) else (0, 1)
def fMass (a b c d : Int) : Int × Int := if ropeOk a b c d then (divR (a * b) 1000000, 0) else (0, 1)
def fStretch (a b c d pull : Int) : Int × Int := if ropeOk a b c d then (if inB pull 1 10000000 then (divR (a * pull) (50 * d), 0) else (0, 2)) else (0, 1)

end Go.Proofs.Ytcddihgdidlbkaa
