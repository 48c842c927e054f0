/- FnRopes: the contracts of its calls, as values. -/
import Derived.Test.YthemojobalcopaaGreatDoorYP
import Derived.Test.YthemojobalcopaaGreatDoorYE
import Derived.Test.YthemojobalcopaaGreatDoorTR
import Derived.Test.YthemojobalcopaaGreatDoorR2
namespace Go.Proofs.YthemojobalcopaaGreatDoor
open Go.ChangeShapes Go.WideShapes Go.ChangeAt Go.RowKit Go.Shelf
set_option linter.unusedVariables false
set_option linter.unusedSimpArgs false

theorem implPF_v {a b c d x p q : Int} (h : fPull a b c d x = (p, q)) (w : World) : Calls Tryz.prog 6 #[.agg #[.int .i64 a, .int .i64 b, .int .i64 c, .int .i64 d], .int .i64 x] w fun e w' => e = .returned (.tuple #[.int .i64 p, .int .i64 q]) ∧ Below w.heap.size w w' := by
  have := implPullFor_c a b c d x w
  rw [h] at this
  exact this
theorem implRO_v {a b c d x p q : Int} (h : fReserve a b c d x = (p, q)) (w : World) : Calls Tryz.prog 7 #[.agg #[.int .i64 a, .int .i64 b, .int .i64 c, .int .i64 d], .int .i64 x] w fun e w' => e = .returned (.tuple #[.int .i64 p, .int .i64 q]) ∧ Below w.heap.size w w' := by
  have := implReserveOf_c a b c d x w
  rw [h] at this
  exact this
theorem implRM_v {a b c d p q : Int} (h : fMass a b c d = (p, q)) (w : World) : Calls Tryz.prog 13 #[.agg #[.int .i64 a, .int .i64 b, .int .i64 c, .int .i64 d]] w fun e w' => e = .returned (.tuple #[.int .i64 p, .int .i64 q]) ∧ Below w.heap.size w w' := by
  have := implRopeMass_c a b c d w
  rw [h] at this
  exact this
theorem specVR_v {a b c d : Int} {v : Bool} (h : ropeOk a b c d = v) (w : World) : Calls Tryz.prog 14 #[.agg #[.int .i64 a, .int .i64 b, .int .i64 c, .int .i64 d]] w fun e w' => e = .returned (.bool v) ∧ Below w.heap.size w w' := by
  have := specValidRope_c a b c d w
  rw [h] at this
  exact this
theorem implCR_v {a b c d x a' b' c' d' q : Int} (h : fCut a b c d x = ((a', b', c', d'), q)) (w : World) : Calls Tryz.prog 12 #[.agg #[.int .i64 a, .int .i64 b, .int .i64 c, .int .i64 d], .int .i64 x] w fun e w' => e = .returned (.tuple #[.agg #[.int .i64 a', .int .i64 b', .int .i64 c', .int .i64 d'], .int .i64 q]) ∧ Below w.heap.size w w' := by
  have := implCutRope_c a b c d x w
  rw [h] at this
  exact this
theorem implSL_v {a b c d x a' b' c' d' q : Int} (h : fSplice a b c d x = ((a', b', c', d'), q)) (w : World) : Calls Tryz.prog 16 #[.agg #[.int .i64 a, .int .i64 b, .int .i64 c, .int .i64 d], .int .i64 x] w fun e w' => e = .returned (.tuple #[.agg #[.int .i64 a', .int .i64 b', .int .i64 c', .int .i64 d'], .int .i64 q]) ∧ Below w.heap.size w w' := by
  have := implSpliceLoss_c a b c d x w
  rw [h] at this
  exact this
theorem implRT_v {a b c d : Int} {l : List UInt8} (h : txtRopeText a b c d = l) (w : World) (ht : Tab Tryz.prog w) : Calls Tryz.prog 18 #[.agg #[.int .i64 a, .int .i64 b, .int .i64 c, .int .i64 d]] w fun e w' => e = .returned (.string ⟨l.toArray⟩) ∧ Below w.heap.size w w' := by
  have := implRopeText_c a b c d w ht
  rw [h] at this
  exact this
theorem implBL_v {A : Option Addr} {n c : Nat} {xs : List Int} {d m p q : Int} (h : fLeft xs d m = (p, q)) (hl : xs.length = n) (hn : n ≤ 1048576) (w : World) (hr : RowI w A xs) : Calls Tryz.prog 9 #[.slice A n c, .int .i64 d, .int .i64 m] w fun e w' => e = .returned (.tuple #[.int .i64 p, .int .i64 q]) ∧ w = w' := by
  subst hl
  have := implBendsLeft_c A c xs d m hn w hr
  rw [h] at this
  exact this
theorem implBA_v {A : Option Addr} {n c : Nat} {xs : List Int} {d p q : Int} (h : fBend xs d = (p, q)) (hl : xs.length = n) (hn : n ≤ 1048576) (w : World) (hr : RowI w A xs) : Calls Tryz.prog 10 #[.slice A n c, .int .i64 d] w fun e w' => e = .returned (.tuple #[.int .i64 p, .int .i64 q]) ∧ w = w' := by
  subst hl
  have := implBendingsAfter_c A c xs d hn w hr
  rw [h] at this
  exact this
theorem EnvL.tab {w : World} (h : EnvL w) : Tab Tryz.prog w := by
  obtain ⟨h1, _⟩ := h
  exact h1.1
theorem b10Abs_c (n : Int) (h : -9223372036854775807 ≤ n) (h' : n ≤ 9223372036854775807) (w : World) : Calls Tryz.prog 19 #[.int .i64 n] w fun e w' => e = .returned (.int .i64 (absI n)) ∧ w = w' := by
  unfold absI
  go_enter Tryz.func19, Tryz.ntmps19
  go_wp2
  all_goals (go_ret; simp [*]; try omega)
end Go.Proofs.YthemojobalcopaaGreatDoor
