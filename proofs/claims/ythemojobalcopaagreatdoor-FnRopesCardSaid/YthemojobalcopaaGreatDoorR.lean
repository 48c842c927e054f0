/- Contracts of the functions on ropes. -/
import Derived.Test.YthemojobalcopaaGreatDoorB
namespace Go.Proofs.YthemojobalcopaaGreatDoor
open Go.ChangeShapes Go.WideShapes Go.ChangeAt Go.RowKit
set_option linter.unusedVariables false
set_option linter.unusedSimpArgs false

def ropeOk (a b c d : Int) : Bool := inB a 1000 4000000 && inB b 100 20000 && inB c 6 400 && inB d 1000 10000000
theorem ropeOk_true {a b c d : Int} (h : ropeOk a b c d = true) : (1000 ≤ a ∧ a ≤ 4000000) ∧ (100 ≤ b ∧ b ≤ 20000) ∧ (6 ≤ c ∧ c ≤ 400) ∧ (1000 ≤ d ∧ d ≤ 10000000) := by
  simp only [ropeOk, Bool.and_eq_true] at h
  obtain ⟨⟨⟨h0, h1⟩, h2⟩, h3⟩ := h
  exact ⟨inB_true h0, inB_true h1, inB_true h2, inB_true h3⟩
theorem rope_mul_a {a b c d x lo hi : Int} (h : ropeOk a b c d = true) (k : inB x lo hi = true) (l : 0 ≤ lo) : 0 ≤ a * x ∧ a * x ≤ 4000000 * hi := by
  obtain ⟨⟨h0, h1⟩, _, _, _⟩ := ropeOk_true h
  obtain ⟨k0, k1⟩ := inB_true k
  exact mul_bd (by omega) h1 (by omega) k1
theorem rope_mul_d {a b c d x lo hi : Int} (h : ropeOk a b c d = true) (k : inB x lo hi = true) (l : 0 ≤ lo) : (0 ≤ d * x ∧ d * x ≤ 10000000 * hi) ∧ 0 ≤ divR (d * x) 100 ∧ divR (d * x) 100 ≤ 10000000 * hi := by
  obtain ⟨_, _, _, ⟨h0, h1⟩⟩ := ropeOk_true h
  obtain ⟨k0, k1⟩ := inB_true k
  have m := mul_bd (show 0 ≤ d by omega) h1 (show 0 ≤ x by omega) k1
  have := divR_pos m.1 (b := 100) (by omega)
  have := divR_le m.1 (b := 100) (by omega)
  exact ⟨m, by omega, by omega⟩
theorem rope_mul_ab {a b c d : Int} (h : ropeOk a b c d = true) : 0 ≤ a * b ∧ a * b ≤ 4000000 * 20000 := by
  obtain ⟨⟨h0, h1⟩, ⟨k0, k1⟩, _, _⟩ := ropeOk_true h
  exact mul_bd (by omega) h1 (by omega) k1
def fReserve (a b c d pull : Int) : Int × Int := if ropeOk a b c d then (if inB pull 1 10000000 then (1000 * d / pull, 0) else (0, 2)) else (0, 1)
def fPull (a b c d reserve : Int) : Int × Int := if ropeOk a b c d then (if inB reserve 1 100000 then (min 10000000 (1000 * d / reserve), 0) else (0, 2)) else (0, 1)
def fMass (a b c d : Int) : Int × Int := if ropeOk a b c d then (divR (a * b) 1000000, 0) else (0, 1)
def fStretch (a b c d pull : Int) : Int × Int := if ropeOk a b c d then (if inB pull 1 10000000 then (divR (a * pull) (50 * d), 0) else (0, 2)) else (0, 1)

/-- The shorter rope, and a code. -/
def fCut (a b c d l : Int) : (Int × Int × Int × Int) × Int := if ropeOk a b c d then (if inB l 1 4000000 then (if ropeOk (a - l) b c d then ((a - l, b, c, d), 0) else ((0, 0, 0, 0), 6)) else ((0, 0, 0, 0), 2)) else ((0, 0, 0, 0), 1)
/-- The weaker rope, and a code. -/
def fSplice (a b c d p : Int) : (Int × Int × Int × Int) × Int := if ropeOk a b c d then (if inB p 0 100 then (if ropeOk a b c (d - divR (d * p) 100) then ((a, b, c, d - divR (d * p) 100), 0) else ((0, 0, 0, 0), 6)) else ((0, 0, 0, 0), 2)) else ((0, 0, 0, 0), 1)
theorem l06Ok_c (a b c d : Int) (p : Nat) (w : World) (h0 : w.cell? ⟨p, 0, none⟩ = some (.int .i64 a)) (h1 : w.cell? ⟨p, 1, none⟩ = some (.int .i64 b)) (h2 : w.cell? ⟨p, 2, none⟩ = some (.int .i64 c)) (h3 : w.cell? ⟨p, 3, none⟩ = some (.int .i64 d)) : Calls Tryz.prog 35 #[.pointer (some ⟨p, 0, none⟩)] w fun e w' => e = .returned (.bool (ropeOk a b c d)) ∧ w = w' := by
  unfold ropeOk
  go_enter Tryz.func35, Tryz.ntmps35
  go_wp2_with
    (first
      | (go_at_call 43; go_call (l00In_c _ _ _ _); rintro e w' ⟨rfl, rfl⟩))
  all_goals (go_ret; simp [*])
theorem specValidRope_c (a b c d : Int) (w : World) : Calls Tryz.prog 14 #[.agg #[.int .i64 a, .int .i64 b, .int .i64 c, .int .i64 d]] w fun e w' => e = .returned (.bool (ropeOk a b c d)) ∧ Below w.heap.size w w' := by
  go_enter Tryz.func14, Tryz.ntmps14
  go_wp2_with
    (first
      | (go_at_call 35; go_call (l06Ok_c a b c d); rintro e w' ⟨rfl, rfl⟩))
  go_returns
  refine ⟨rfl, ?_⟩
  go_grown
theorem implValidRope_c (a b c d : Int) (w : World) : Calls Tryz.prog 33 #[.agg #[.int .i64 a, .int .i64 b, .int .i64 c, .int .i64 d]] w fun e w' => e = .returned (.bool (ropeOk a b c d)) ∧ Below w.heap.size w w' := by
  unfold ropeOk
  go_enter Tryz.func33, Tryz.ntmps33
  go_wp2_with
    (first
      | (go_at_call 24; go_call (within_c _ _ _ _); rintro e w' ⟨rfl, rfl⟩))
  all_goals (go_returns; refine ⟨by simp [*], ?_⟩; go_grown)
theorem isPull_c (n : Int) (w : World) : Calls Tryz.prog 25 #[.int .i64 n] w fun e w' => e = .returned (.bool (inB n 1 10000000)) ∧ w = w' := by
  go_enter Tryz.func25, Tryz.ntmps25
  go_wp2_with
    (first
      | (go_at_call 24; go_call (within_c _ _ _ _); rintro e w' ⟨rfl, rfl⟩))
  all_goals (go_ret; simp [*])
theorem roped_c (a b c d : Int) (fine : Bool) (w : World) : Calls Tryz.prog 23 #[.agg #[.int .i64 a, .int .i64 b, .int .i64 c, .int .i64 d], .bool fine] w fun e w' => e = .returned (.int .i64 (codeOf (ropeOk a b c d) fine)) ∧ Below w.heap.size w w' := by
  cases hok : ropeOk a b c d <;> cases fine
  all_goals
    go_enter Tryz.func23, Tryz.ntmps23
    go_wp2_with
      (first
        | (go_at_call 33; go_call (implValidRope_c _ _ _ _ _); rintro e w' ⟨rfl, hb⟩; obtain ⟨qc, qf, qz, qs⟩ := bfacts hb; (try simp only [World.size_alloc, World.size_setCell, World.size_drew, World.heap_drewN] at qs)))
    go_returns
    refine ⟨rfl, ?_⟩
    repeat' (first
      | (with_reducible exact Below.refl _ _)
      | (with_reducible assumption)
      | (with_reducible refine Below.alloc ?_ ?_ _)
      | (with_reducible refine Below.drew ?_)
      | (with_reducible refine bdrewN ?_ _)
      | (with_reducible refine Below.setCell ?_ ?_ _)
      | (with_reducible refine bthen (by assumption) ?_ ?_)
      | go_size)
theorem implReserveOf_c (a b c d x : Int) (w : World) : Calls Tryz.prog 7 #[.agg #[.int .i64 a, .int .i64 b, .int .i64 c, .int .i64 d], .int .i64 x] w fun e w' => e = .returned (.tuple #[.int .i64 (fReserve a b c d x).1, .int .i64 (fReserve a b c d x).2]) ∧ Below w.heap.size w w' := by
  cases hok : ropeOk a b c d <;> cases hp : inB x 1 10000000
  all_goals
    try obtain ⟨⟨a0, a1⟩, ⟨b0, b1⟩, ⟨c0, c1⟩, ⟨d0, d1⟩⟩ := ropeOk_true hok
    try obtain ⟨p0, p1⟩ := inB_true hp
    try obtain ⟨m0, m1⟩ := rope_mul_a hok hp (by decide)
    go_enter Tryz.func7, Tryz.ntmps7
    go_wp2
    go_region_held3 (fun w' => w'.cell? ⟨w.heap.size, 0, none⟩ = some (.int .i64 a) ∧ w'.cell? ⟨w.heap.size, 1, none⟩ = some (.int .i64 b) ∧ w'.cell? ⟨w.heap.size, 2, none⟩ = some (.int .i64 c) ∧ w'.cell? ⟨w.heap.size, 3, none⟩ = some (.int .i64 d)) (simp [*, go_sem])
      (first
        | (go_at_call 25; go_call (isPull_c _ _); rintro e w' ⟨rfl, rfl⟩)
        | (go_at_call 24; go_call (within_c _ _ _ _); rintro e w' ⟨rfl, rfl⟩)
        | (go_at_call 23; go_call (roped_c _ _ _ _ _ _); rintro e w' ⟨rfl, hb⟩; obtain ⟨qc, qf, qz, qs⟩ := bfacts hb; (try simp only [World.size_alloc, World.size_setCell, World.size_drew, World.heap_drewN] at qs)))
    go_wp2_with
      (first
        | (go_at_call 34; go_call (nearest_c); rintro e w' ⟨rfl, nq, rfl⟩))
    all_goals
      go_returns
      refine ⟨by first | (simp [fReserve, hok, hp]; done) | (simp [fReserve, hok, hp]; omega), ?_⟩
      repeat' (first
        | (with_reducible exact Below.refl _ _)
        | (with_reducible assumption)
        | (with_reducible refine Below.alloc ?_ ?_ _)
        | (with_reducible refine Below.drew ?_)
        | (with_reducible refine bdrewN ?_ _)
        | (with_reducible refine Below.setCell ?_ ?_ _)
        | (with_reducible refine bthen (by assumption) ?_ ?_)
        | go_size)
theorem implPullFor_c (a b c d x : Int) (w : World) : Calls Tryz.prog 6 #[.agg #[.int .i64 a, .int .i64 b, .int .i64 c, .int .i64 d], .int .i64 x] w fun e w' => e = .returned (.tuple #[.int .i64 (fPull a b c d x).1, .int .i64 (fPull a b c d x).2]) ∧ Below w.heap.size w w' := by
  cases hok : ropeOk a b c d <;> cases hp : inB x 1 100000
  all_goals
    try obtain ⟨⟨a0, a1⟩, ⟨b0, b1⟩, ⟨c0, c1⟩, ⟨d0, d1⟩⟩ := ropeOk_true hok
    try obtain ⟨p0, p1⟩ := inB_true hp
    try obtain ⟨m0, m1⟩ := rope_mul_a hok hp (by decide)
    go_enter Tryz.func6, Tryz.ntmps6
    go_wp2
    go_region_held3 (fun w' => w'.cell? ⟨w.heap.size, 0, none⟩ = some (.int .i64 a) ∧ w'.cell? ⟨w.heap.size, 1, none⟩ = some (.int .i64 b) ∧ w'.cell? ⟨w.heap.size, 2, none⟩ = some (.int .i64 c) ∧ w'.cell? ⟨w.heap.size, 3, none⟩ = some (.int .i64 d)) (simp [*, go_sem])
      (first
        | (go_at_call 25; go_call (isPull_c _ _); rintro e w' ⟨rfl, rfl⟩)
        | (go_at_call 24; go_call (within_c _ _ _ _); rintro e w' ⟨rfl, rfl⟩)
        | (go_at_call 23; go_call (roped_c _ _ _ _ _ _); rintro e w' ⟨rfl, hb⟩; obtain ⟨qc, qf, qz, qs⟩ := bfacts hb; (try simp only [World.size_alloc, World.size_setCell, World.size_drew, World.heap_drewN] at qs)))
    go_wp2_with
      (first
        | (go_at_call 34; go_call (nearest_c); rintro e w' ⟨rfl, nq, rfl⟩))
    all_goals
      go_returns
      refine ⟨by first | (simp [fPull, hok, hp]; done) | (simp [fPull, hok, hp]; omega), ?_⟩
      repeat' (first
        | (with_reducible exact Below.refl _ _)
        | (with_reducible assumption)
        | (with_reducible refine Below.alloc ?_ ?_ _)
        | (with_reducible refine Below.drew ?_)
        | (with_reducible refine bdrewN ?_ _)
        | (with_reducible refine Below.setCell ?_ ?_ _)
        | (with_reducible refine bthen (by assumption) ?_ ?_)
        | go_size)
theorem implRopeMass_c (a b c d : Int) (w : World) : Calls Tryz.prog 13 #[.agg #[.int .i64 a, .int .i64 b, .int .i64 c, .int .i64 d]] w fun e w' => e = .returned (.tuple #[.int .i64 (fMass a b c d).1, .int .i64 (fMass a b c d).2]) ∧ Below w.heap.size w w' := by
  cases hok : ropeOk a b c d
  all_goals
    try obtain ⟨⟨a0, a1⟩, ⟨b0, b1⟩, ⟨c0, c1⟩, ⟨d0, d1⟩⟩ := ropeOk_true hok
    try obtain ⟨m0, m1⟩ := rope_mul_ab hok
    go_enter Tryz.func13, Tryz.ntmps13
    go_wp2_with
      (first
        | (go_at_call 33; go_call (implValidRope_c _ _ _ _ _); rintro e w' ⟨rfl, hb⟩; obtain ⟨qc, qf, qz, qs⟩ := bfacts hb; (try simp only [World.size_alloc, World.size_setCell, World.size_drew, World.heap_drewN] at qs))
        | (go_at_call 34; go_call (nearest_c); rintro e w' ⟨rfl, nq, rfl⟩))
    go_returns
    refine ⟨by simp [fMass, hok], ?_⟩
    repeat' (first
      | (with_reducible exact Below.refl _ _)
      | (with_reducible assumption)
      | (with_reducible refine Below.alloc ?_ ?_ _)
      | (with_reducible refine Below.drew ?_)
      | (with_reducible refine bdrewN ?_ _)
      | (with_reducible refine Below.setCell ?_ ?_ _)
      | (with_reducible refine bthen (by assumption) ?_ ?_)
      | go_size)
theorem orState_c (a b c d : Int) (w : World) : Calls Tryz.prog 32 #[.agg #[.int .i64 a, .int .i64 b, .int .i64 c, .int .i64 d]] w fun e w' => e = .returned (if ropeOk a b c d then .tuple #[.agg #[.int .i64 a, .int .i64 b, .int .i64 c, .int .i64 d], .int .i64 0] else .tuple #[.agg #[.int .i64 0, .int .i64 0, .int .i64 0, .int .i64 0], .int .i64 6]) ∧ Below w.heap.size w w' := by
  cases hok : ropeOk a b c d
  all_goals
    go_enter Tryz.func32, Tryz.ntmps32
    go_wp2_with
      (first
        | (go_at_call 33; go_call (implValidRope_c _ _ _ _ _); rintro e w' ⟨rfl, hb⟩; obtain ⟨qc, qf, qz, qs⟩ := bfacts hb; (try simp only [World.size_alloc, World.size_setCell, World.size_drew, World.heap_drewN] at qs)))
    ((try simp only [Exit.inBlock, Exit.then]); refine bodyPost_ret (by simp [results, Tryz.results32, go_sem, *]; try rfl) rfl ?_)
    refine ⟨by simp, ?_⟩
    repeat' (first
      | (with_reducible exact Below.refl _ _)
      | (with_reducible assumption)
      | (with_reducible refine Below.alloc ?_ ?_ _)
      | (with_reducible refine Below.drew ?_)
      | (with_reducible refine bdrewN ?_ _)
      | (with_reducible refine Below.setCell ?_ ?_ _)
      | (with_reducible refine bthen (by assumption) ?_ ?_)
      | go_size)
end Go.Proofs.YthemojobalcopaaGreatDoor
