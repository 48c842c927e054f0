/- Contracts of the functions that make a rope another one. -/
import Derived.Test.YthemojobalcopaaGreatDoorR
namespace Go.Proofs.YthemojobalcopaaGreatDoor
open Go.ChangeShapes Go.WideShapes Go.ChangeAt Go.RowKit
set_option linter.unusedVariables false
set_option linter.unusedSimpArgs false
theorem implCutRope_c (a b c d x : Int) (w : World) : Calls Tryz.prog 12 #[.agg #[.int .i64 a, .int .i64 b, .int .i64 c, .int .i64 d], .int .i64 x] w fun e w' => e = .returned (.tuple #[.agg #[.int .i64 (fCut a b c d x).1.1, .int .i64 (fCut a b c d x).1.2.1, .int .i64 (fCut a b c d x).1.2.2.1, .int .i64 (fCut a b c d x).1.2.2.2], .int .i64 (fCut a b c d x).2]) ∧ Below w.heap.size w w' := by
  cases hok : ropeOk a b c d <;> cases hp : inB x 1 4000000 <;> cases hn : ropeOk (a - x) b c d
  all_goals
    try obtain ⟨⟨a0, a1⟩, ⟨b0, b1⟩, ⟨c0, c1⟩, ⟨d0, d1⟩⟩ := ropeOk_true hok
    try obtain ⟨p0, p1⟩ := inB_true hp
    try obtain ⟨⟨m0, m1⟩, q0, q1⟩ := rope_mul_d hok hp (by decide)
    go_enter Tryz.func12, Tryz.ntmps12
    go_wp2
    go_region_held3 (fun w' => w'.cell? ⟨w.heap.size, 0, none⟩ = some (.int .i64 a) ∧ w'.cell? ⟨w.heap.size, 1, none⟩ = some (.int .i64 b) ∧ w'.cell? ⟨w.heap.size, 2, none⟩ = some (.int .i64 c) ∧ w'.cell? ⟨w.heap.size, 3, none⟩ = some (.int .i64 d)) (simp [*, go_sem])
      (first
        | (go_at_call 24; go_call (within_c _ _ _ _); rintro e w' ⟨rfl, rfl⟩)
        | (go_at_call 23; go_call (roped_c _ _ _ _ _ _); rintro e w' ⟨rfl, hb⟩; obtain ⟨qc, qf, qz, qs⟩ := bfacts hb; (try simp only [World.size_alloc, World.size_setCell, World.size_drew, World.heap_drewN] at qs)))
    go_wp2_with
      (first
        | (go_at_call 32; go_call (orState_c _ _ _ _ _); rintro e w' ⟨rfl, hb⟩; obtain ⟨qc, qf, qz, qs⟩ := bfacts hb; (try simp only [World.size_alloc, World.size_setCell, World.size_drew, World.heap_drewN] at qs)))
    ((try simp only [Exit.inBlock, Exit.then]); first | (refine bodyPost_ret (by simp [results, Tryz.results12, go_sem, *]; try rfl) rfl ?_) | (obtain ⟨u0, q0⟩ : ∃ u, w'.cell? ⟨w.heap.size + 1, 0, none⟩ = some u := ⟨_, by simp [*, go_sem]; rfl⟩; obtain ⟨u1, q1⟩ : ∃ u, w'.cell? ⟨w.heap.size + 1, 1, none⟩ = some u := ⟨_, by simp [*, go_sem]; rfl⟩; obtain ⟨u2, q2⟩ : ∃ u, w'.cell? ⟨w.heap.size + 1, 2, none⟩ = some u := ⟨_, by simp [*, go_sem]; rfl⟩; obtain ⟨u3, q3⟩ : ∃ u, w'.cell? ⟨w.heap.size + 1, 3, none⟩ = some u := ⟨_, by simp [*, go_sem]; rfl⟩; refine bodyPost_ret (by simp [results, Tryz.results12, go_sem, q0, q1, q2, q3]; try rfl) rfl ?_))
    refine ⟨by simp [fCut, hok, hp, hn], ?_⟩
    repeat' (first
      | (with_reducible exact Below.refl _ _)
      | (with_reducible assumption)
      | (with_reducible refine Below.alloc ?_ ?_ _)
      | (with_reducible refine Below.drew ?_)
      | (with_reducible refine bdrewN ?_ _)
      | (with_reducible refine Below.setCell ?_ ?_ _)
      | (with_reducible refine bthen (by assumption) ?_ ?_)
      | go_size)
set_option maxHeartbeats 1000000 in
theorem implSpliceLoss_tt (n : Bool) (a b c d x : Int) (w : World) (hok : ropeOk a b c d = true) (hp : inB x 0 100 = true) (hn : ropeOk a b c (d - divR (d * x) 100) = n) : Calls Tryz.prog 16 #[.agg #[.int .i64 a, .int .i64 b, .int .i64 c, .int .i64 d], .int .i64 x] w fun e w' => e = .returned (.tuple #[.agg #[.int .i64 (fSplice a b c d x).1.1, .int .i64 (fSplice a b c d x).1.2.1, .int .i64 (fSplice a b c d x).1.2.2.1, .int .i64 (fSplice a b c d x).1.2.2.2], .int .i64 (fSplice a b c d x).2]) ∧ Below w.heap.size w w' := by
  obtain ⟨⟨a0, a1⟩, ⟨b0, b1⟩, ⟨c0, c1⟩, ⟨d0, d1⟩⟩ := ropeOk_true hok
  obtain ⟨p0, p1⟩ := inB_true hp
  obtain ⟨⟨m0, m1⟩, q0, q1⟩ := rope_mul_d hok hp (by decide)
  have e1 : IntKind.i64.wrap (d * x) = d * x := IntWalk.i64_in _ (by omega)
  have e2 : IntKind.i64.wrap (d - divR (d * x) 100) = d - divR (d * x) 100 := IntWalk.i64_in _ (by omega)
  cases n
  all_goals
    go_enter Tryz.func16, Tryz.ntmps16
    go_wp2
    go_region_held3 (fun w' => w'.cell? ⟨w.heap.size, 0, none⟩ = some (.int .i64 a) ∧ w'.cell? ⟨w.heap.size, 1, none⟩ = some (.int .i64 b) ∧ w'.cell? ⟨w.heap.size, 2, none⟩ = some (.int .i64 c) ∧ w'.cell? ⟨w.heap.size, 3, none⟩ = some (.int .i64 d)) (simp [*, go_sem])
      (first
        | (go_at_call 24; go_call (within_c _ _ _ _); rintro e w' ⟨rfl, rfl⟩)
        | (go_at_call 23; go_call (roped_c _ _ _ _ _ _); rintro e w' ⟨rfl, hb⟩; obtain ⟨qc, qf, qz, qs⟩ := bfacts hb; (try simp only [World.size_alloc, World.size_setCell, World.size_drew, World.heap_drewN] at qs)))
    go_wp2
    go_region_with ((go_at_call 34; go_call nearest_c; rintro e w' ⟨rfl, nq, rfl⟩))
    all_goals
      go_wp2_with
        (first
          | (go_at_call 32; go_call (orState_c _ _ _ _ _); rintro e w' ⟨rfl, hb⟩; obtain ⟨qc, qf, qz, qs⟩ := bfacts hb; (try simp only [World.size_alloc, World.size_setCell, World.size_drew, World.heap_drewN] at qs)))
      ((try simp only [Exit.inBlock, Exit.then]); first | (refine bodyPost_ret (by simp [results, Tryz.results16, go_sem, *]; try rfl) rfl ?_) | (obtain ⟨u0, q0⟩ : ∃ u, w'.cell? ⟨w.heap.size + 1, 0, none⟩ = some u := ⟨_, by simp [*, go_sem]; rfl⟩; obtain ⟨u1, q1⟩ : ∃ u, w'.cell? ⟨w.heap.size + 1, 1, none⟩ = some u := ⟨_, by simp [*, go_sem]; rfl⟩; obtain ⟨u2, q2⟩ : ∃ u, w'.cell? ⟨w.heap.size + 1, 2, none⟩ = some u := ⟨_, by simp [*, go_sem]; rfl⟩; obtain ⟨u3, q3⟩ : ∃ u, w'.cell? ⟨w.heap.size + 1, 3, none⟩ = some u := ⟨_, by simp [*, go_sem]; rfl⟩; refine bodyPost_ret (by simp [results, Tryz.results16, go_sem, q0, q1, q2, q3]; try rfl) rfl ?_))
      refine ⟨by simp [fSplice, hok, hp, hn], ?_⟩
      repeat' (first
        | (with_reducible exact Below.refl _ _)
        | (with_reducible assumption)
        | (with_reducible refine Below.alloc ?_ ?_ _)
        | (with_reducible refine Below.drew ?_)
        | (with_reducible refine bdrewN ?_ _)
        | (with_reducible refine Below.setCell ?_ ?_ _)
        | (with_reducible refine bthen (by assumption) ?_ ?_)
        | go_size)
theorem implSpliceLoss_c (a b c d x : Int) (w : World) : Calls Tryz.prog 16 #[.agg #[.int .i64 a, .int .i64 b, .int .i64 c, .int .i64 d], .int .i64 x] w fun e w' => e = .returned (.tuple #[.agg #[.int .i64 (fSplice a b c d x).1.1, .int .i64 (fSplice a b c d x).1.2.1, .int .i64 (fSplice a b c d x).1.2.2.1, .int .i64 (fSplice a b c d x).1.2.2.2], .int .i64 (fSplice a b c d x).2]) ∧ Below w.heap.size w w' := by
  cases hok : ropeOk a b c d <;> cases hp : inB x 0 100
  rotate_left 3
  · exact implSpliceLoss_tt _ a b c d x w hok hp rfl
  all_goals
    go_enter Tryz.func16, Tryz.ntmps16
    go_wp2
    go_region_held3 (fun w' => w'.cell? ⟨w.heap.size, 0, none⟩ = some (.int .i64 a) ∧ w'.cell? ⟨w.heap.size, 1, none⟩ = some (.int .i64 b) ∧ w'.cell? ⟨w.heap.size, 2, none⟩ = some (.int .i64 c) ∧ w'.cell? ⟨w.heap.size, 3, none⟩ = some (.int .i64 d)) (simp [*, go_sem])
      (first
        | (go_at_call 24; go_call (within_c _ _ _ _); rintro e w' ⟨rfl, rfl⟩)
        | (go_at_call 23; go_call (roped_c _ _ _ _ _ _); rintro e w' ⟨rfl, hb⟩; obtain ⟨qc, qf, qz, qs⟩ := bfacts hb; (try simp only [World.size_alloc, World.size_setCell, World.size_drew, World.heap_drewN] at qs)))
    go_wp2
    ((try simp only [Exit.inBlock, Exit.then]); first | (refine bodyPost_ret (by simp [results, Tryz.results16, go_sem, *]; try rfl) rfl ?_) | (obtain ⟨u0, q0⟩ : ∃ u, w'.cell? ⟨w.heap.size + 1, 0, none⟩ = some u := ⟨_, by simp [*, go_sem]; rfl⟩; obtain ⟨u1, q1⟩ : ∃ u, w'.cell? ⟨w.heap.size + 1, 1, none⟩ = some u := ⟨_, by simp [*, go_sem]; rfl⟩; obtain ⟨u2, q2⟩ : ∃ u, w'.cell? ⟨w.heap.size + 1, 2, none⟩ = some u := ⟨_, by simp [*, go_sem]; rfl⟩; obtain ⟨u3, q3⟩ : ∃ u, w'.cell? ⟨w.heap.size + 1, 3, none⟩ = some u := ⟨_, by simp [*, go_sem]; rfl⟩; refine bodyPost_ret (by simp [results, Tryz.results16, go_sem, q0, q1, q2, q3]; try rfl) rfl ?_))
    refine ⟨by simp [fSplice, hok, hp], ?_⟩
    repeat' (first
      | (with_reducible exact Below.refl _ _)
      | (with_reducible assumption)
      | (with_reducible refine Below.alloc ?_ ?_ _)
      | (with_reducible refine Below.drew ?_)
      | (with_reducible refine bdrewN ?_ _)
      | (with_reducible refine Below.setCell ?_ ?_ _)
      | (with_reducible refine bthen (by assumption) ?_ ?_)
      | go_size)
end Go.Proofs.YthemojobalcopaaGreatDoor
