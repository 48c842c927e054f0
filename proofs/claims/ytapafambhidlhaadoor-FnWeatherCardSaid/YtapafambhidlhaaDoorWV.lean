/- FnWeather: the contracts of its calls, as values. -/
import Derived.Test.YtapafambhidlhaaDoorWQ
import Derived.Test.YtapafambhidlhaaDoorWD
import Derived.Test.YtapafambhidlhaaDoorTR
namespace Go.Proofs.YtapafambhidlhaaDoor
open Go.ChangeShapes Go.WideShapes Go.ChangeAt Go.RowKit Go.Shelf
set_option linter.unusedVariables false
set_option linter.unusedSimpArgs false

theorem implKO_v {r d x q : Int} {ks : List Int} (h : fKinds r d x = (ks, q)) (w : World) : Calls Tryd.prog 6 #[.agg #[.int .i64 r, .int .i64 d, .int .i64 x]] w fun e w' => ∃ v, e = .returned (.tuple #[v, .int .i64 q]) ∧ OwnI 2 w' w.heap.size v ks ∧ Below w.heap.size w w' := by
  have := implKindsOf_c r d x w
  rw [h] at this
  exact this
theorem implGO_v {r d x g q : Int} (h : fGrip r d x = (g, q)) (w : World) : Calls Tryd.prog 7 #[.agg #[.int .i64 r, .int .i64 d, .int .i64 x]] w fun e w' => e = .returned (.tuple #[.int .i64 g, .int .i64 q]) ∧ Below w.heap.size w w' := by
  have := implGripOf_c r d x w
  rw [h] at this
  exact this
theorem specGO_v {r d x g q : Int} (h : fGrip r d x = (g, q)) (w : World) : Calls Tryd.prog 15 #[.agg #[.int .i64 r, .int .i64 d, .int .i64 x]] w fun e w' => e = .returned (.tuple #[.int .i64 g, .int .i64 q]) ∧ Below w.heap.size w w' := by
  have := specGripOf_c r d x w
  rw [h] at this
  exact this
theorem implSS_v {r d x g q : Int} (h : fStop r d x 1000 = (g, q)) (w : World) : Calls Tryd.prog 10 #[.agg #[.int .i64 r, .int .i64 d, .int .i64 x], .int .i64 1000] w fun e w' => e = .returned (.tuple #[.int .i64 g, .int .i64 q]) ∧ Below w.heap.size w w' := by
  have := implSteepestStop_c r d x 1000 w
  rw [h] at this
  exact this
theorem implHT_v {r d x : Int} {l : List UInt8} (h : txtHourText r d x = l) (w : World) (ht : Tab Tryd.prog w) : Calls Tryd.prog 9 #[.agg #[.int .i64 r, .int .i64 d, .int .i64 x]] w fun e w' => e = .returned (.string ⟨l.toArray⟩) ∧ Below w.heap.size w w' := by
  have := implHourText_c r d x w ht
  rw [h] at this
  exact this
theorem implLG_v {A : Option Addr} {n c : Nat} {z : List Int} {g a m q : Int} (h : fLong z n g = (a, m, q)) (hz : z.length = n * 3) (hn : n ≤ 1048576) (w : World) (hr : RowI w A z) : Calls Tryd.prog 14 #[.slice A n c, .int .i64 g] w fun e w' => e = .returned (.tuple #[.int .i64 a, .int .i64 m, .int .i64 q]) ∧ Below w.heap.size w w' := by
  have := implLongestGood_c A n c z g hz hn w hr
  rw [h] at this
  exact this
theorem implWN_c (k : Int) (h1 : 1 ≤ k) (h2 : k ≤ 4) (w : World) : Calls Tryd.prog 12 #[.int .i64 k] w fun e w' => (∃ b l, e = .returned (.string ⟨(b :: l).toArray⟩)) ∧ Below w.heap.size w w' := by
  have h' : inB k 1 4 = true := inB_of h1 h2
  obtain rfl | rfl | rfl | rfl : k = 1 ∨ k = 2 ∨ k = 3 ∨ k = 4 := by omega
  all_goals
    go_enter Tryd.func12, Tryd.ntmps12
    go_wp2_with
      (first
        | (go_at_call 25; go_call (isWeather_c _ _); rintro e w' ⟨rfl, rfl⟩))
    go_returns
    refine ⟨⟨_, _, by simp; exact ⟨rfl, rfl⟩⟩, ?_⟩
    repeat' (first
      | (with_reducible exact Below.refl _ _)
      | (with_reducible assumption)
      | (with_reducible refine Below.alloc ?_ ?_ _)
      | (with_reducible refine Below.drew ?_)
      | (with_reducible refine bdrewN ?_ _)
      | (with_reducible refine Below.setCell ?_ ?_ _)
      | (with_reducible refine bthen (by assumption) ?_ ?_)
      | go_size)
theorem EnvL.tab {w : World} (h : EnvL w) : Tab Tryd.prog w := by
  obtain ⟨h1, _⟩ := h
  exact h1.1
theorem kg (r d x : Int) : ∃ ks g q, fKinds r d x = (ks, q) ∧ fGrip r d x = (g, q) ∧ ks.length ≤ 4 ∧ (q = 0 → hourOk r d x = true ∧ ks = kindsTo r d x 4 ∧ g = gripI r d x) := by
  cases h : hourOk r d x
  · exact ⟨[], 0, 1, by simp [fKinds, h], by simp [fGrip, h], by simp, fun h => by cases h⟩
  · exact ⟨_, _, 0, by simp [fKinds, h], by simp [fGrip, h], kindsTo_len r d x 4, fun _ => ⟨rfl, rfl, rfl⟩⟩
theorem stop_1000 {r d x : Int} (h : hourOk r d x = true) : fStop r d x 1000 = (gripI r d x, 0) := by
  unfold fStop
  rw [if_pos h, inB_of (by omega) (by omega), if_pos rfl, Int.mul_ediv_cancel_left _ (by omega)]
end Go.Proofs.YtapafambhidlhaaDoor
