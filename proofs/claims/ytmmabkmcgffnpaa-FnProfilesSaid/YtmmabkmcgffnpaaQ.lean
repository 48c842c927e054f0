/- Plain: the least number with a property, the greatest one, and the next speed of a profile; no program in sight. -/
import Derived.Test.YtmmabkmcgffnpaaP
namespace Go.Proofs.Ytmmabkmcgffnpaa
set_option linter.unusedVariables false
set_option linter.unusedSimpArgs false

/-- r is the least number from lo to hi with p, or hi + 1. -/
def LeastAt (p : Int → Bool) (lo hi r : Int) : Prop := lo ≤ r ∧ r ≤ hi + 1 ∧ (∀ v, lo ≤ v → v < r → p v = false) ∧ (r ≤ hi → p r = true)
theorem leastAt_unique {p : Int → Bool} {lo hi r s : Int} (h : LeastAt p lo hi r) (k : LeastAt p lo hi s) : r = s := by
  obtain ⟨h1, h2, h3, h4⟩ := h
  obtain ⟨k1, k2, k3, k4⟩ := k
  rcases Int.lt_trichotomy r s with e | e | e
  · have := k3 r h1 e
    rw [h4 (by omega)] at this
    cases this
  · exact e
  · have := h3 s k1 e
    rw [k4 (by omega)] at this
    cases this
/-- From lo on, n further ones: the greatest with p, or lo. -/
def greatF (p : Int → Bool) (lo : Int) : Nat → Int
  | 0 => lo
  | n + 1 => if p (lo + (n + 1 : Nat)) then lo + (n + 1 : Nat) else greatF p lo n
theorem greatF_at (p : Int → Bool) (lo : Int) (hp : p lo = true) (n : Nat) : lo ≤ greatF p lo n ∧ greatF p lo n ≤ lo + n ∧ p (greatF p lo n) = true ∧ ∀ v, greatF p lo n < v → v ≤ lo + n → p v = false := by
  induction n with
  | zero => exact ⟨by simp [greatF], by simp [greatF], hp, fun v h1 h2 => by simp [greatF] at h1; omega⟩
  | succ n ih =>
    obtain ⟨h1, h2, h3, h4⟩ := ih
    rw [greatF]
    split
    · next h => exact ⟨by omega, by omega, h, fun v h5 h6 => by omega⟩
    · next h =>
      refine ⟨h1, by omega, h3, fun v h5 h6 => ?_⟩
      by_cases e : v = lo + (n + 1 : Nat)
      · subst e; simpa using h
      · exact h4 v h5 (by omega)
theorem great_of {p : Int → Bool} {lo hi r : Int} {n : Nat} (hn : hi = lo + n) (hp : p lo = true) (h1 : lo ≤ r) (h2 : r ≤ hi) (h3 : p r = true) (h4 : ∀ v, r < v → v ≤ hi → p v = false) : r = greatF p lo n := by
  obtain ⟨k1, k2, k3, k4⟩ := greatF_at p lo hp n
  rcases Int.lt_trichotomy r (greatF p lo n) with e | e | e
  · have := h4 _ e (by omega)
    rw [k3] at this
    cases this
  · exact e
  · have := k4 r e (by omega)
    rw [h3] at this
    cases this
theorem great_of_least {p : Int → Bool} {lo hi r : Int} {n : Nat} (hn : hi = lo + n) (hp : p lo = true) (h : LeastAt (fun v => !p v) lo hi r) (mono : ∀ v v', lo ≤ v → v ≤ v' → v' ≤ hi → p v' = true → p v = true) : r - 1 = greatF p lo n := by
  obtain ⟨h1, h2, h3, h4⟩ := h
  have hlt : lo < r := by
    rcases Int.lt_or_eq_of_le h1 with e | e
    · exact e
    · subst e
      have := h4 (by omega)
      simp [hp] at this
  refine great_of hn hp (by omega) (by omega) ?_ fun v h5 h6 => ?_
  · have := h3 (r - 1) (by omega) (by omega)
    simpa using this
  · have hr := h4 (by omega)
    rcases hv : p v with _ | _
    · rfl
    · have := mono r v (by omega) (by omega) h6 hv
      simp [this] at hr

/-- May a profile go at speed v with some way left? -/
def mayB (a r y v left : Int) : Bool := decide (v * v ≤ r * r + 2 * a * max 0 (left - v - y))
theorem mayB_self (a r y left : Int) (ha : 0 ≤ a) : mayB a r y r left = true := by
  unfold mayB
  have : 0 ≤ 2 * a * max 0 (left - r - y) := Int.mul_nonneg (by omega) (by omega)
  simp
  omega
theorem mayB_mono {a r y left v v' : Int} (ha : 0 ≤ a) (hv : 0 ≤ v) (h : v ≤ v') (k : mayB a r y v' left = true) : mayB a r y v left = true := by
  unfold mayB at k ⊢
  simp only [decide_eq_true_eq] at k ⊢
  have h1 : v * v ≤ v' * v' := Int.mul_le_mul h h hv (by omega)
  have h2 : 2 * a * max 0 (left - v' - y) ≤ 2 * a * max 0 (left - v - y) := Int.mul_le_mul_of_nonneg_left (by omega) (by omega)
  omega
def highI (a c r speed : Int) : Int := max r (min c (speed + a))
def nextI (a c r y speed left : Int) : Int := min (greatF (fun v => mayB a r y v left) r (highI a c r speed - r).toNat) left
theorem may_bd {a r y v left : Int} (a0 : 1 ≤ a) (a1 : a ≤ 2000) (r0 : 100 ≤ r) (r1 : r ≤ 15000) (y0 : 0 ≤ y) (v0 : 0 ≤ v) (v1 : v ≤ 20000) (l0 : 0 ≤ left) (l1 : left ≤ 3000000) : (0 ≤ v * v ∧ v * v ≤ 400000000) ∧ (0 ≤ r * r ∧ r * r ≤ 225000000) ∧ (0 ≤ 2 * a * max 0 (left - v - y) ∧ 2 * a * max 0 (left - v - y) ≤ 12000000000) := by
  have h1 := mul_bd v0 v1 v0 v1
  have h2 := mul_bd (show 0 ≤ r by omega) r1 (show 0 ≤ r by omega) r1
  have h3 := mul_bd (show 0 ≤ 2 * a by omega) (show 2 * a ≤ 4000 by omega) (show 0 ≤ max 0 (left - v - y) by omega) (show max 0 (left - v - y) ≤ 3000000 by omega)
  omega

end Go.Proofs.Ytmmabkmcgffnpaa
