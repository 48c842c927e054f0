/- Contracts of the functions on profiles: validity. -/
import Derived.Test.YthemojobalcopaaGreatDoorB
namespace Go.Proofs.YthemojobalcopaaGreatDoor
open Go.ChangeShapes Go.WideShapes Go.ChangeAt Go.RowKit
set_option linter.unusedVariables false
set_option linter.unusedSimpArgs false

def profOk (a c r w : Int) : Bool := inB a 1 2000 && inB c 100 15000 && inB r 100 c && inB w 0 3000000
theorem profOk_true {a c r w : Int} (h : profOk a c r w = true) : (1 ≤ a ∧ a ≤ 2000) ∧ (100 ≤ c ∧ c ≤ 15000) ∧ (100 ≤ r ∧ r ≤ c) ∧ (0 ≤ w ∧ w ≤ 3000000) := by
  simp only [profOk, Bool.and_eq_true] at h
  obtain ⟨⟨⟨h0, h1⟩, h2⟩, h3⟩ := h
  exact ⟨inB_true h0, inB_true h1, inB_true h2, inB_true h3⟩
end Go.Proofs.YthemojobalcopaaGreatDoor
