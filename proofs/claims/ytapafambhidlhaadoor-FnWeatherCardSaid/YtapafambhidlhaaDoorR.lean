/- Contracts of the functions on ropes. -/
import Derived.Test.YtapafambhidlhaaDoorB
namespace Go.Proofs.YtapafambhidlhaaDoor
open Go.ChangeShapes Go.WideShapes Go.ChangeAt Go.RowKit
set_option linter.unusedVariables false
set_option linter.unusedSimpArgs false

def ropeOk (a b c d : Int) : Bool := inB a 1000 4000000 && inB b 100 20000 && inB c 6 400 && inB d 1000 10000000
theorem ropeOk_true {a b c d : Int} (h : ropeOk a b c d = true) : (1000 ≤ a ∧ a ≤ 4000000) ∧ (100 ≤ b ∧ b ≤ 20000) ∧ (6 ≤ c ∧ c ≤ 400) ∧ (1000 ≤ d ∧ d ≤ 10000000) := by
  simp only [ropeOk, Bool.and_eq_true] at h
  obtain ⟨⟨⟨h0, h1⟩, h2⟩, h3⟩ := h
  exact ⟨inB_true h0, inB_true h1, inB_true h2, inB_true h3⟩
theorem rope_mul_a {a b c d x lo hi : Int} (h : ropeOk a b c d = true) (k : inB x lo hi = true) (l : 0 ≤ lo) : 0 ≤ a * x ∧ a * x ≤ 4000000 * hi := by
  obtain ⟨⟨h0, h1⟩, _, _, _⟩ := ropeOk_true h
  obtain ⟨k0, k1⟩ := inB_true k
  exact mul_bd (by omega) h1 (by omega) k1
theorem rope_mul_d {a b c d x lo hi : Int} (h : ropeOk a b c d = true) (k : inB x lo hi = true) (l : 0 ≤ lo) : (0 ≤ d * x ∧ d * x ≤ 10000000 * hi) ∧ 0 ≤ divR (d * x) 100 ∧ divR (d * x) 100 ≤ 10000000 * hi := by
  obtain ⟨_, _, _, ⟨h0, h1⟩⟩ := ropeOk_true h
  obtain ⟨k0, k1⟩ := inB_true k
  have m := mul_bd (show 0 ≤ d by omega) h1 (show 0 ≤ x by omega) k1
  have := divR_pos m.1 (b := 100) (by omega)
  have := divR_le m.1 (b := 100) (by omega)
  exact ⟨m, by omega, by omega⟩
theorem rope_mul_ab {a b c d : Int} (h : ropeOk a b c d = true) : 0 ≤ a * b ∧ a * b ≤ 4000000 * 20000 := by
  obtain ⟨⟨h0, h1⟩, ⟨k0, k1⟩, _, _⟩ := ropeOk_true h
  exact mul_bd (by omega) h1 (by omega) k1
def fReserve (a b c d pull : Int) : Int × Int := if ropeOk a b c d then (if inB pull 1 10000000 then (1000 * d / pull, 0) else (0, 2)) else (0, 1)
def fPull (a b c d reserve : Int) : Int × Int := if ropeOk a b c d then (if inB reserve 1 100000 then (min 10000000 (1000 * d / reserve), 0) else (0, 2)) else (0, 1)
def fMass (a b c d : Int) : Int × Int := if ropeOk a b c d then (divR (a * b) 1000000, 0) else (0, 1)
def fStretch (a b c d pull : Int) : Int × Int := if ropeOk a b c d then (if inB pull 1 10000000 then (divR (a * pull) (50 * d), 0) else (0, 2)) else (0, 1)

/-- The shorter rope, and a code. -/
def fCut (a b c d l : Int) : (Int × Int × Int × Int) × Int := if ropeOk a b c d then (if inB l 1 4000000 then (if ropeOk (a - l) b c d then ((a - l, b, c, d), 0) else ((0, 0, 0, 0), 6)) else ((0, 0, 0, 0), 2)) else ((0, 0, 0, 0), 1)
/-- The weaker rope, and a code. -/
def fSplice (a b c d p : Int) : (Int × Int × Int × Int) × Int := if ropeOk a b c d then (if inB p 0 100 then (if ropeOk a b c (d - divR (d * p) 100) then ((a, b, c, d - divR (d * p) 100), 0) else ((0, 0, 0, 0), 6)) else ((0, 0, 0, 0), 2)) else ((0, 0, 0, 0), 1)
end Go.Proofs.YtapafambhidlhaaDoor
