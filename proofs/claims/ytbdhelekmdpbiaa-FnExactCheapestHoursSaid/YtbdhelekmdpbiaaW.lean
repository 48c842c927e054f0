/- Contracts of the functions on hours of weather. -/
import Derived.Test.YtbdhelekmdpbiaaB
namespace Go.Proofs.Ytbdhelekmdpbiaa
open Go.ChangeShapes Go.WideShapes Go.ChangeAt Go.RowKit
set_option linter.unusedVariables false
set_option linter.unusedSimpArgs false

def hourOk (r d w : Int) : Bool := inB r 0 1000 && inB d (-400) 500 && inB w 0 1000
theorem hourOk_true {r d w : Int} (h : hourOk r d w = true) : (0 ≤ r ∧ r ≤ 1000) ∧ (-400 ≤ d ∧ d ≤ 500) ∧ (0 ≤ w ∧ w ≤ 1000) := by
  simp only [hourOk, Bool.and_eq_true] at h
  obtain ⟨⟨h0, h1⟩, h2⟩ := h
  exact ⟨inB_true h0, inB_true h1, inB_true h2⟩

/-- Does a kind of weather come in in an hour? -/
def kindB (k r d w : Int) : Bool := if k = 1 then decide (0 < r) && decide (10 < d) else if k = 2 then decide (0 < r) && decide (d ≤ 10) else if k = 3 then decide (150 < w) else decide (d < -100)
/-- .. and its number. -/
def kindN (k r d w : Int) : Int := if k = 1 then r else if k = 2 then r else if k = 3 then w else -d
def gripI (r d w : Int) : Int := 350 - (if kindB 1 r d w then 150 else 0) - (if kindB 2 r d w then 270 else 0) - (if kindB 4 r d w then 20 else 0)
theorem kindB_12 {r d w : Int} (h : kindB 1 r d w = true) : kindB 2 r d w = false := by
  simp only [kindB] at h ⊢
  simp at h ⊢
  omega
theorem gripI_bd (r d w : Int) : 60 ≤ gripI r d w ∧ gripI r d w ≤ 350 := by
  have h := @kindB_12 r d w
  unfold gripI
  generalize kindB 1 r d w = a at *
  generalize kindB 2 r d w = b at *
  generalize kindB 4 r d w = c at *
  cases a <;> cases b <;> cases c <;> simp_all
def fGrip (r d w : Int) : Int × Int := if hourOk r d w then (gripI r d w, 0) else (0, 1)
def fStop (r d w x : Int) : Int × Int := if hourOk r d w then (if inB x 1000 5000 then (1000 * gripI r d w / x, 0) else (0, 2)) else (0, 1)
end Go.Proofs.Ytbdhelekmdpbiaa
