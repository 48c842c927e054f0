/- Energy: the program, where the forces are none. -/
import Derived.Test.YtgnanppgbkngnaaM6
namespace Go.Proofs.Ytgnanppgbkngnaa
open Go.ChangeShapes Go.WideShapes Go.ChangeAt Go.RowKit
set_option linter.unusedVariables false
set_option linter.unusedSimpArgs false

set_option maxHeartbeats 4000000 in
theorem energy_f1 (p m l v s : Int) (A : Option Addr) (c : Nat) (xs : List Int) (hn : xs.length ≤ 1048576) (hf : foB xs = false) (w : World) (hr : RowI w A xs) : Calls Try.prog 66 #[.agg #[.int .i64 p, .int .i64 m, .int .i64 l], .slice A xs.length c, .int .i64 v, .int .i64 s] w fun e w' => e = .returned (.tuple #[.int .i64 (fEnergy p m l v s xs).1, .int .i64 (fEnergy p m l v s xs).2.1, .int .i64 (fEnergy p m l v s xs).2.2]) ∧ Below w.heap.size w w' := by
  cases hok : motorOk p m l
  all_goals
    go_enter Try.func66, Try.ntmps66
    go_wp2
    first | go_region_with ((first | (go_at_call 60; go_call (areForces_v hf _ _ hn _ (by first | exact hr | exact hr.alloc _ | exact (hr.alloc _).drew)); rintro e w' ⟨rfl, rfl⟩) | (go_at_call 53; go_call (motored_c _ _ _ _ _); rintro e w' ⟨rfl, hb⟩; obtain ⟨qc, qf, qz, qs⟩ := bfacts hb; (try simp only [World.size_alloc, World.size_setCell, World.size_drew, World.heap_drewN] at qs)))) | fail
    all_goals
      go_wp2
      go_returns
      refine ⟨by simp [fEnergy, hok, hf], ?_⟩
      repeat' (first
        | (with_reducible exact Below.refl _ _)
        | (with_reducible assumption)
        | (with_reducible refine Below.alloc ?_ ?_ _)
        | (with_reducible refine Below.drew ?_)
        | (with_reducible refine bdrewN ?_ _)
        | (with_reducible refine Below.setCell ?_ ?_ _)
        | (with_reducible refine bthen (by assumption) ?_ ?_)
        | go_size)
end Go.Proofs.Ytgnanppgbkngnaa
