/- HoursToRun. -/
import Derived.Test.YteddchnmjppdeaaZ3
import Derived.Test.YteddchnmjppdeaaOW2
namespace Go.Proofs.Yteddchnmjppdeaa
open Go.ChangeShapes Go.WideShapes Go.ChangeAt Go.RowKit
set_option linter.unusedVariables false
set_option linter.unusedSimpArgs false

/-- The hours among the first k in which a car may go. -/
def runTo (z : List Int) (n : Nat) (y : List Int) : Nat → List Int
  | 0 => []
  | k + 1 => if 0 < allowTo z (tA y k) (tB y k) (tC y k) 1 n then runTo z n y k ++ [(k : Int)] else runTo z n y k
theorem runTo_in {z y : List Int} {n k : Nat} (h : 0 < allowTo z (tA y k) (tB y k) (tC y k) 1 n) : runTo z n y (k + 1) = runTo z n y k ++ [(k : Int)] := by rw [runTo, if_pos h]
theorem runTo_out {z y : List Int} {n k : Nat} (h : ¬ 0 < allowTo z (tA y k) (tB y k) (tC y k) 1 n) : runTo z n y (k + 1) = runTo z n y k := by rw [runTo, if_neg h]
theorem runTo_len (z y : List Int) (n : Nat) : ∀ k, (runTo z n y k).length ≤ k
  | 0 => by simp [runTo]
  | k + 1 => by
    have := runTo_len z y n k
    simp only [runTo]
    split <;> simp <;> omega
def fRun (z : List Int) (n : Nat) (y : List Int) (m : Nat) : List Int × Int := if limsB z n then (if hoursB y m then (runTo z n y m, 0) else ([], 1)) else ([], 1)
end Go.Proofs.Yteddchnmjppdeaa
