/- The next speed: the exported functions and the law. -/
import Derived.Test.YtmmabkmcgffnpaaN
namespace Go.Proofs.Ytmmabkmcgffnpaa
open Go.ChangeShapes Go.WideShapes Go.ChangeAt Go.RowKit
set_option linter.unusedVariables false
set_option linter.unusedSimpArgs false

def fNext (a c r y speed left : Int) : Int × Int := if profOk a c r y then (if inB speed 0 15000 && inB left 0 3000000 then (nextI a c r y speed left, 0) else (0, 2)) else (0, 1)
theorem profiled_c (a c r y : Int) (fine : Bool) (w : World) : Calls Try.prog 33 #[.agg #[.int .i64 a, .int .i64 c, .int .i64 r, .int .i64 y], .bool fine] w fun e w' => e = .returned (.int .i64 (codeOf (profOk a c r y) fine)) ∧ Below w.heap.size w w' := by
  cases hok : profOk a c r y <;> cases fine
  all_goals
    go_enter Try.func33, Try.ntmps33
    go_wp2_with
      (first
        | (go_at_call 54; go_call (implValidProfile_c _ _ _ _ _); rintro e w' ⟨rfl, hb⟩; obtain ⟨qc, qf, qz, qs⟩ := bfacts hb; (try simp only [World.size_alloc, World.size_setCell, World.size_drew, World.heap_drewN] at qs)))
    go_returns
    refine ⟨rfl, ?_⟩
    repeat' (first
      | (with_reducible exact Below.refl _ _)
      | (with_reducible assumption)
      | (with_reducible refine Below.alloc ?_ ?_ _)
      | (with_reducible refine Below.drew ?_)
      | (with_reducible refine bdrewN ?_ _)
      | (with_reducible refine Below.setCell ?_ ?_ _)
      | (with_reducible refine bthen (by assumption) ?_ ?_)
      | go_size)
theorem isSpeed_v {n : Int} {b : Bool} (h : inB n 0 15000 = b) (w : World) : Calls Try.prog 34 #[.int .i64 n] w fun e w' => e = .returned (.bool b) ∧ w = w' := by
  subst h
  exact isSpeed_c n w
theorem isWay_v {n : Int} {b : Bool} (h : inB n 0 3000000 = b) (w : World) : Calls Try.prog 35 #[.int .i64 n] w fun e w' => e = .returned (.bool b) ∧ w = w' := by
  subst h
  exact isWay_c n w
set_option maxHeartbeats 1000000 in
theorem implNextSpeed_f (a c r y speed left : Int) (w : World) (hs : inB speed 0 15000 = false) : Calls Try.prog 13 #[.agg #[.int .i64 a, .int .i64 c, .int .i64 r, .int .i64 y], .int .i64 speed, .int .i64 left] w fun e w' => e = .returned (.tuple #[.int .i64 (fNext a c r y speed left).1, .int .i64 (fNext a c r y speed left).2]) ∧ Below w.heap.size w w' := by
  cases hok : profOk a c r y
  all_goals
    go_enter Try.func13, Try.ntmps13
    go_wp2
    first | go_region_with ((first | (go_at_call 34; go_call (isSpeed_v hs _); rintro e w' ⟨rfl, rfl⟩) | (go_at_call 33; go_call (profiled_c _ _ _ _ _ _); rintro e w' ⟨rfl, hb⟩; obtain ⟨qc, qf, qz, qs⟩ := bfacts hb; (try simp only [World.size_alloc, World.size_setCell, World.size_drew, World.heap_drewN] at qs)))) | fail
    all_goals
      go_wp2
      go_returns
      refine ⟨by simp [fNext, hok, hs], ?_⟩
      repeat' (first
        | (with_reducible exact Below.refl _ _)
        | (with_reducible assumption)
        | (with_reducible refine Below.alloc ?_ ?_ _)
        | (with_reducible refine Below.drew ?_)
        | (with_reducible refine bdrewN ?_ _)
        | (with_reducible refine Below.setCell ?_ ?_ _)
        | (with_reducible refine bthen (by assumption) ?_ ?_)
        | go_size)
set_option maxHeartbeats 1000000 in
theorem implNextSpeed_c (a c r y speed left : Int) (w : World) : Calls Try.prog 13 #[.agg #[.int .i64 a, .int .i64 c, .int .i64 r, .int .i64 y], .int .i64 speed, .int .i64 left] w fun e w' => e = .returned (.tuple #[.int .i64 (fNext a c r y speed left).1, .int .i64 (fNext a c r y speed left).2]) ∧ Below w.heap.size w w' := by
  cases hs : inB speed 0 15000
  · exact implNextSpeed_f a c r y speed left w hs
  cases hok : profOk a c r y <;> cases hl : inB left 0 3000000
  all_goals
    try obtain ⟨⟨a0, a1⟩, ⟨c0, c1⟩, ⟨r0, r1⟩, ⟨y0, y1⟩⟩ := profOk_true hok
    try obtain ⟨s0, s1⟩ := inB_true hs
    try obtain ⟨l0, l1⟩ := inB_true hl
    go_enter Try.func13, Try.ntmps13
    go_wp2
    go_region_held3 (fun w' => w'.cell? ⟨w.heap.size, 0, none⟩ = some (.int .i64 a) ∧ w'.cell? ⟨w.heap.size, 1, none⟩ = some (.int .i64 c) ∧ w'.cell? ⟨w.heap.size, 2, none⟩ = some (.int .i64 r) ∧ w'.cell? ⟨w.heap.size, 3, none⟩ = some (.int .i64 y)) (simp [*, go_sem])
      (first
        | (go_at_call 34; go_call (isSpeed_v hs _); rintro e w' ⟨rfl, rfl⟩)
        | (go_at_call 35; go_call (isWay_v hl _); rintro e w' ⟨rfl, rfl⟩)
        | (go_at_call 33; go_call (profiled_c _ _ _ _ _ _); rintro e w' ⟨rfl, hb⟩; obtain ⟨qc, qf, qz, qs⟩ := bfacts hb; (try simp only [World.size_alloc, World.size_setCell, World.size_drew, World.heap_drewN] at qs)))
    go_wp2_with
      (first
        | (go_at_call 36; go_call (nextSpeed_c); rintro e w' ⟨rfl, hb⟩; obtain ⟨qc, qf, qz, qs⟩ := bfacts hb; (try simp only [World.size_alloc, World.size_setCell, World.size_drew, World.heap_drewN] at qs); have za : w.heap.size < w'.heap.size := (by omega); have pa0 : w'.cell? ⟨w.heap.size, 0, none⟩ = some (.int .i64 a) := (by rw [qc _ _ (by first | assumption | (simp; done) | (simp; omega))]; first | assumption | (simp; done) | (simp [*]; done) | (simp [*, go_sem]; done)); have pa1 : w'.cell? ⟨w.heap.size, 1, none⟩ = some (.int .i64 c) := (by rw [qc _ _ (by first | assumption | (simp; done) | (simp; omega))]; first | assumption | (simp; done) | (simp [*]; done) | (simp [*, go_sem]; done)); have pa2 : w'.cell? ⟨w.heap.size, 2, none⟩ = some (.int .i64 r) := (by rw [qc _ _ (by first | assumption | (simp; done) | (simp; omega))]; first | assumption | (simp; done) | (simp [*]; done) | (simp [*, go_sem]; done)); have pa3 : w'.cell? ⟨w.heap.size, 3, none⟩ = some (.int .i64 y) := (by rw [qc _ _ (by first | assumption | (simp; done) | (simp; omega))]; first | assumption | (simp; done) | (simp [*]; done) | (simp [*, go_sem]; done))))
    go_returns
    refine ⟨by simp [fNext, hok, hs, hl], ?_⟩
    repeat' (first
      | (with_reducible exact Below.refl _ _)
      | (with_reducible assumption)
      | (with_reducible refine Below.alloc ?_ ?_ _)
      | (with_reducible refine Below.drew ?_)
      | (with_reducible refine bdrewN ?_ _)
      | (with_reducible refine Below.setCell ?_ ?_ _)
      | (with_reducible refine bthen (by assumption) ?_ ?_)
      | go_size)
theorem specNextSpeed_c (a c r y speed left : Int) (w : World) : Calls Try.prog 11 #[.agg #[.int .i64 a, .int .i64 c, .int .i64 r, .int .i64 y], .int .i64 speed, .int .i64 left] w fun e w' => e = .returned (.tuple #[.int .i64 (fNext a c r y speed left).1, .int .i64 (fNext a c r y speed left).2]) ∧ Below w.heap.size w w' := by
  cases hok : profOk a c r y <;> cases hs : inB speed 0 15000 <;> cases hl : inB left 0 3000000
  all_goals
    try obtain ⟨⟨a0, a1⟩, ⟨c0, c1⟩, ⟨r0, r1⟩, ⟨y0, y1⟩⟩ := profOk_true hok
    try obtain ⟨s0, s1⟩ := inB_true hs
    try obtain ⟨l0, l1⟩ := inB_true hl
    go_enter Try.func11, Try.ntmps11
    go_wp2_with
      (first
        | (go_at_call 29; go_call (l09Ok_c a c r y); rintro e w' ⟨rfl, nq, rfl⟩)
        | (go_at_call 30; go_call (l00In_c _ _ _ _); rintro e w' ⟨rfl, rfl⟩)
        | (go_at_call 31; go_call (l09Way_c _ _); rintro e w' ⟨rfl, rfl⟩)
        | (go_at_call 32; go_call (l09Next_c a c r y); rintro e w' ⟨rfl, nq, rfl⟩))
    go_returns
    refine ⟨by simp [fNext, hok, hs, hl], ?_⟩
    repeat' (first
      | (with_reducible exact Below.refl _ _)
      | (with_reducible assumption)
      | (with_reducible refine Below.alloc ?_ ?_ _)
      | (with_reducible refine Below.drew ?_)
      | (with_reducible refine bdrewN ?_ _)
      | (with_reducible refine Below.setCell ?_ ?_ _)
      | (with_reducible refine bthen (by assumption) ?_ ?_)
      | go_size)
theorem walk_FnExactNextSpeed (a c r y speed left : Int) (w : World) (_ : I64 a) (_ : I64 c) (_ : I64 r) (_ : I64 y) (_ : I64 speed) (_ : I64 left) : Calls Try.prog 3 #[.agg #[.int .i64 a, .int .i64 c, .int .i64 r, .int .i64 y], .int .i64 speed, .int .i64 left] w fun e w' => e = .returned (.bool true) ∧ Below w.heap.size w w' := by
  go_enter Try.func3, Try.ntmps3
  go_wp2_with
    (first
      | (go_at_call 12; go_call (toProfile_c _ _ _ _ _); rintro e w' ⟨rfl, hb⟩; obtain ⟨qc, qf, qz, qs⟩ := bfacts hb; (try simp only [World.size_alloc, World.size_setCell, World.size_drew, World.heap_drewN] at qs); have za : w.heap.size < w'.heap.size := (by omega); have pa0 : w'.cell? ⟨w.heap.size, 0, none⟩ = some (.int .i64 a) := (by rw [qc _ _ (by first | assumption | (simp; done) | (simp; omega))]; first | assumption | (simp; done) | (simp [*]; done) | (simp [*, go_sem]; done)); have pa1 : w'.cell? ⟨w.heap.size, 1, none⟩ = some (.int .i64 c) := (by rw [qc _ _ (by first | assumption | (simp; done) | (simp; omega))]; first | assumption | (simp; done) | (simp [*]; done) | (simp [*, go_sem]; done)); have pa2 : w'.cell? ⟨w.heap.size, 2, none⟩ = some (.int .i64 r) := (by rw [qc _ _ (by first | assumption | (simp; done) | (simp; omega))]; first | assumption | (simp; done) | (simp [*]; done) | (simp [*, go_sem]; done)); have pa3 : w'.cell? ⟨w.heap.size, 3, none⟩ = some (.int .i64 y) := (by rw [qc _ _ (by first | assumption | (simp; done) | (simp; omega))]; first | assumption | (simp; done) | (simp [*]; done) | (simp [*, go_sem]; done)))
      | (go_at_call 11; go_call (specNextSpeed_c _ _ _ _ _ _ _); rintro e w' ⟨rfl, hb⟩; obtain ⟨qc, qf, qz, qs⟩ := bfacts hb; (try simp only [World.size_alloc, World.size_setCell, World.size_drew, World.heap_drewN] at qs); have za : w.heap.size < w'.heap.size := (by omega); have pa0 : w'.cell? ⟨w.heap.size, 0, none⟩ = some (.int .i64 a) := (by rw [qc _ _ (by first | assumption | (simp; done) | (simp; omega))]; first | assumption | (simp; done) | (simp [*]; done) | (simp [*, go_sem]; done)); have pa1 : w'.cell? ⟨w.heap.size, 1, none⟩ = some (.int .i64 c) := (by rw [qc _ _ (by first | assumption | (simp; done) | (simp; omega))]; first | assumption | (simp; done) | (simp [*]; done) | (simp [*, go_sem]; done)); have pa2 : w'.cell? ⟨w.heap.size, 2, none⟩ = some (.int .i64 r) := (by rw [qc _ _ (by first | assumption | (simp; done) | (simp; omega))]; first | assumption | (simp; done) | (simp [*]; done) | (simp [*, go_sem]; done)); have pa3 : w'.cell? ⟨w.heap.size, 3, none⟩ = some (.int .i64 y) := (by rw [qc _ _ (by first | assumption | (simp; done) | (simp; omega))]; first | assumption | (simp; done) | (simp [*]; done) | (simp [*, go_sem]; done)))
      | (go_at_call 13; go_call (implNextSpeed_c _ _ _ _ _ _ _); rintro e w' ⟨rfl, hb⟩; obtain ⟨qc, qf, qz, qs⟩ := bfacts hb; (try simp only [World.size_alloc, World.size_setCell, World.size_drew, World.heap_drewN] at qs); have za : w.heap.size < w'.heap.size := (by omega); have pa0 : w'.cell? ⟨w.heap.size, 0, none⟩ = some (.int .i64 a) := (by rw [qc _ _ (by first | assumption | (simp; done) | (simp; omega))]; first | assumption | (simp; done) | (simp [*]; done) | (simp [*, go_sem]; done)); have pa1 : w'.cell? ⟨w.heap.size, 1, none⟩ = some (.int .i64 c) := (by rw [qc _ _ (by first | assumption | (simp; done) | (simp; omega))]; first | assumption | (simp; done) | (simp [*]; done) | (simp [*, go_sem]; done)); have pa2 : w'.cell? ⟨w.heap.size, 2, none⟩ = some (.int .i64 r) := (by rw [qc _ _ (by first | assumption | (simp; done) | (simp; omega))]; first | assumption | (simp; done) | (simp [*]; done) | (simp [*, go_sem]; done)); have pa3 : w'.cell? ⟨w.heap.size, 3, none⟩ = some (.int .i64 y) := (by rw [qc _ _ (by first | assumption | (simp; done) | (simp; omega))]; first | assumption | (simp; done) | (simp [*]; done) | (simp [*, go_sem]; done))))
  go_returns
  refine ⟨by simp, ?_⟩
  repeat' (first
    | (with_reducible exact Below.refl _ _)
    | (with_reducible assumption)
    | (with_reducible refine Below.alloc ?_ ?_ _)
    | (with_reducible refine Below.drew ?_)
    | (with_reducible refine bdrewN ?_ _)
    | (with_reducible refine Below.setCell ?_ ?_ _)
    | (with_reducible refine bthen (by assumption) ?_ ?_)
    | go_size)
end Go.Proofs.Ytmmabkmcgffnpaa
