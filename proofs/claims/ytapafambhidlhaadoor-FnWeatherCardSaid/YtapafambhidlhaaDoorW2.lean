/- SteepestStop. -/
import Derived.Test.YtapafambhidlhaaDoorW
namespace Go.Proofs.YtapafambhidlhaaDoor
open Go.ChangeShapes Go.WideShapes Go.ChangeAt Go.RowKit
set_option linter.unusedVariables false
set_option linter.unusedSimpArgs false
theorem implSteepestStop_c (r d x v : Int) (w : World) : Calls Tryd.prog 10 #[.agg #[.int .i64 r, .int .i64 d, .int .i64 x], .int .i64 v] w fun e w' => e = .returned (.tuple #[.int .i64 (fStop r d x v).1, .int .i64 (fStop r d x v).2]) ∧ Below w.heap.size w w' := by
  cases hok : hourOk r d x <;> cases hv : inB v 1000 5000
  all_goals
    try obtain ⟨⟨r0, r1⟩, ⟨d0, d1⟩, ⟨x0, x1⟩⟩ := hourOk_true hok
    try obtain ⟨v0, v1⟩ := inB_true hv
    have HG := gripI_bd r d x
    have HF := Lib.hid (show fStop r d x v = if hourOk r d x then (if inB v 1000 5000 then (gripI r d x * 1000 / v, 0) else (0, 2)) else (0, 1) by unfold fStop; rw [Int.mul_comm])
    go_enter Tryd.func10, Tryd.ntmps10
    go_wp2_with
      (first
        | (go_at_call 19; go_call (validHour_c _ _ _ _); rintro e w' ⟨rfl, hb⟩; obtain ⟨qc, qf, qz, qs⟩ := bfacts hb; (try simp only [World.size_alloc, World.size_setCell, World.size_drew, World.heap_drewN] at qs); have za : w.heap.size < w'.heap.size := (by omega); have pa0 : w'.cell? ⟨w.heap.size, 0, none⟩ = some (.int .i64 r) := (by rw [qc _ _ (by first | assumption | (simp; done) | (simp; omega))]; first | assumption | (simp; done) | (simp [*]; done) | (simp [*, go_sem]; done)); have pa1 : w'.cell? ⟨w.heap.size, 1, none⟩ = some (.int .i64 d) := (by rw [qc _ _ (by first | assumption | (simp; done) | (simp; omega))]; first | assumption | (simp; done) | (simp [*]; done) | (simp [*, go_sem]; done)); have pa2 : w'.cell? ⟨w.heap.size, 2, none⟩ = some (.int .i64 x) := (by rw [qc _ _ (by first | assumption | (simp; done) | (simp; omega))]; first | assumption | (simp; done) | (simp [*]; done) | (simp [*, go_sem]; done)))
        | (go_at_call 24; go_call (within_c _ _ _ _); rintro e w' ⟨rfl, rfl⟩)
        | (go_at_call 21; go_call (grip_c); rintro e w' ⟨rfl, hb⟩; obtain ⟨qc, qf, qz, qs⟩ := bfacts hb; (try simp only [World.size_alloc, World.size_setCell, World.size_drew, World.heap_drewN] at qs); have za : w.heap.size < w'.heap.size := (by omega); have pa0 : w'.cell? ⟨w.heap.size, 0, none⟩ = some (.int .i64 r) := (by rw [qc _ _ (by first | assumption | (simp; done) | (simp; omega))]; first | assumption | (simp; done) | (simp [*]; done) | (simp [*, go_sem]; done)); have pa1 : w'.cell? ⟨w.heap.size, 1, none⟩ = some (.int .i64 d) := (by rw [qc _ _ (by first | assumption | (simp; done) | (simp; omega))]; first | assumption | (simp; done) | (simp [*]; done) | (simp [*, go_sem]; done)); have pa2 : w'.cell? ⟨w.heap.size, 2, none⟩ = some (.int .i64 x) := (by rw [qc _ _ (by first | assumption | (simp; done) | (simp; omega))]; first | assumption | (simp; done) | (simp [*]; done) | (simp [*, go_sem]; done))))
    go_returns
    refine ⟨by rw [HF.out]; simp [hok, hv], ?_⟩
    repeat' (first
      | (with_reducible exact Below.refl _ _)
      | (with_reducible assumption)
      | (with_reducible refine Below.alloc ?_ ?_ _)
      | (with_reducible refine Below.drew ?_)
      | (with_reducible refine bdrewN ?_ _)
      | (with_reducible refine Below.setCell ?_ ?_ _)
      | (with_reducible refine bthen (by assumption) ?_ ?_)
      | go_size)
end Go.Proofs.YtapafambhidlhaaDoor
