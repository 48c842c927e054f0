/- The laws' own helpers: b10Long, b10Has, b10Rises. -/
import Derived.Test.YthemojobalcopaaGreatDoorD5
import Derived.Test.YthemojobalcopaaGreatDoorF
namespace Go.Proofs.YthemojobalcopaaGreatDoor
open Go.ChangeShapes Go.WideShapes Go.ChangeAt Go.RowKit
set_option linter.unusedVariables false
set_option linter.unusedSimpArgs false

theorem b10Long_c (A : Option Addr) (n c : Nat) (w : World) : Calls Tryz.prog 4 #[.slice A n c] w fun e w' => e = .returned (.bool (decide ((1048576 : Int) < n))) ∧ w = w' := by
  go_enter Tryz.func4, Tryz.ntmps4
  go_wp2
  go_ret
  simp
end Go.Proofs.YthemojobalcopaaGreatDoor
