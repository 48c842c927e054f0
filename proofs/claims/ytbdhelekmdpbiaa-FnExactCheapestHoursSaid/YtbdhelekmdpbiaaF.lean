/- slices.ContainsFunc over numbers, and the checks of lists that use it. -/
import Derived.Test.YtbdhelekmdpbiaaS
namespace Go.Proofs.Ytbdhelekmdpbiaa
open Go.ChangeShapes Go.WideShapes Go.ChangeAt Go.RowKit
set_option linter.unusedVariables false
set_option linter.unusedSimpArgs false

theorem any_of {p : Int → Bool} {xs : List Int} {k : Nat} (hk : k < xs.length) (h : p (nth xs k) = true) : xs.any p = true := List.any_eq_true.2 ⟨_, nth_mem hk, h⟩
theorem any_none {p : Int → Bool} {xs : List Int} (h : ∀ j, j < xs.length → p (nth xs j) = false) : xs.any p = false := by
  rw [List.any_eq_false]
  intro x hx
  obtain ⟨j, hj, rfl⟩ := List.mem_iff_getElem.1 hx
  have := h j hj
  simp only [nth, List.getD_eq_getElem?_getD, List.getElem?_eq_getElem hj, Option.getD_some] at this
  simp [this]
/-- What slices.IndexFunc hands back: a number that is negative just where nothing was found. -/
def IdxPost (b : Bool) (w : World) (e : Ending) (w' : World) : Prop := ∃ r : Int, e = .returned (.int .i64 r) ∧ decide (0 ≤ r) = b ∧ w = w'

def notSh (n : Int) : Bool := !inB n 100 10000
/-- Are they sheaves? -/
def shB (xs : List Int) : Bool := decide ((xs.length : Int) ≤ 12) && !xs.any notSh
theorem shB_true {xs : List Int} (h : shB xs = true) : xs.length ≤ 12 ∧ ∀ x ∈ xs, 100 ≤ x ∧ x ≤ 10000 := by
  simp only [shB, Bool.and_eq_true, decide_eq_true_eq, Bool.not_eq_true', List.any_eq_false] at h
  refine ⟨by omega, fun x hx => inB_true ?_⟩
  have := h.2 x hx
  simpa [notSh] using this
end Go.Proofs.Ytbdhelekmdpbiaa
