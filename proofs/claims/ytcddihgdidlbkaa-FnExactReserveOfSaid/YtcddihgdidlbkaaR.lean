/- Contracts of the functions on ropes. -/
import Derived.Test.YtcddihgdidlbkaaB
namespace Go.Proofs.Ytcddihgdidlbkaa
open Go.ChangeShapes Go.WideShapes Go.ChangeAt Go.RowKit
set_option linter.unusedVariables false
set_option linter.unusedSimpArgs false
theorem toRope_c (a b c d : Int) (w : World) : Calls Try.prog 21 #[.agg #[.int .i64 a, .int .i64 b, .int .i64 c, .int .i64 d]] w fun e w' => e = .returned (.agg #[.int .i64 a, .int .i64 b, .int .i64 c, .int .i64 d]) ∧ Below w.heap.size w w' := by
  go_enter Try.func21, Try.ntmps21
  go_wp2
  go_returns
  refine ⟨rfl, ?_⟩
  go_grown
theorem l06Ok_c (a b c d : Int) (p : Nat) (w : World) (h0 : w.cell? ⟨p, 0, none⟩ = some (.int .i64 a)) (h1 : w.cell? ⟨p, 1, none⟩ = some (.int .i64 b)) (h2 : w.cell? ⟨p, 2, none⟩ = some (.int .i64 c)) (h3 : w.cell? ⟨p, 3, none⟩ = some (.int .i64 d)) : Calls Try.prog 48 #[.pointer (some ⟨p, 0, none⟩)] w fun e w' => e = .returned (.bool (ropeOk a b c d)) ∧ w = w' := by
  unfold ropeOk
  go_enter Try.func48, Try.ntmps48
  go_wp2_with
    (first
      | (go_at_call 44; (refine (l00In_c _ _ _ _).mono ?_); rintro e w' ⟨rfl, rfl⟩))
  all_goals (go_ret; simp [*])
theorem specValidRope_c (a b c d : Int) (w : World) : Calls Try.prog 20 #[.agg #[.int .i64 a, .int .i64 b, .int .i64 c, .int .i64 d]] w fun e w' => e = .returned (.bool (ropeOk a b c d)) ∧ Below w.heap.size w w' := by
  go_enter Try.func20, Try.ntmps20
  go_wp2_with
    (first
      | (go_at_call 48; (refine (l06Ok_c a b c d _ _ (by simp) (by simp) (by simp) (by simp)).mono ?_); rintro e w' ⟨rfl, rfl⟩))
  go_returns
  refine ⟨rfl, ?_⟩
  go_grown
theorem implValidRope_c (a b c d : Int) (w : World) : Calls Try.prog 22 #[.agg #[.int .i64 a, .int .i64 b, .int .i64 c, .int .i64 d]] w fun e w' => e = .returned (.bool (ropeOk a b c d)) ∧ Below w.heap.size w w' := by
  unfold ropeOk
  go_enter Try.func22, Try.ntmps22
  go_wp2_with
    (first
      | (go_at_call 47; (refine (within_c _ _ _ _).mono ?_); rintro e w' ⟨rfl, rfl⟩))
  all_goals (go_returns; refine ⟨by simp [*], ?_⟩; go_grown)
theorem isPull_c (n : Int) (w : World) : Calls Try.prog 53 #[.int .i64 n] w fun e w' => e = .returned (.bool (inB n 1 10000000)) ∧ w = w' := by
  go_enter Try.func53, Try.ntmps53
  go_wp2_with
    (first
      | (go_at_call 47; (refine (within_c _ _ _ _).mono ?_); rintro e w' ⟨rfl, rfl⟩))
  all_goals (go_ret; simp [*])
theorem l06Pull_c (n : Int) (w : World) : Calls Try.prog 51 #[.int .i64 n] w fun e w' => e = .returned (.bool (inB n 1 10000000)) ∧ w = w' := by
  go_enter Try.func51, Try.ntmps51
  go_wp2_with
    (first
      | (go_at_call 44; (refine (l00In_c _ _ _ _).mono ?_); rintro e w' ⟨rfl, rfl⟩))
  all_goals (go_ret; simp [*])
theorem roped_c (a b c d : Int) (fine : Bool) (w : World) : Calls Try.prog 52 #[.agg #[.int .i64 a, .int .i64 b, .int .i64 c, .int .i64 d], .bool fine] w fun e w' => e = .returned (.int .i64 (codeOf (ropeOk a b c d) fine)) ∧ Below w.heap.size w w' := by
  cases hok : ropeOk a b c d <;> cases fine
  all_goals
    go_enter Try.func52, Try.ntmps52
    go_wp2_with
      (first
        | (go_at_call 22; (refine (implValidRope_c _ _ _ _ _).mono ?_); rintro e w' ⟨rfl, hb⟩; obtain ⟨hc, hf, hz, hs⟩ := bfacts hb; try simp only [World.size_alloc, World.size_setCell, World.size_drew, World.heap_drewN] at hs))
    go_returns
    refine ⟨rfl, ?_⟩
    repeat' (first
      | (with_reducible exact Below.refl _ _)
      | (with_reducible assumption)
      | (with_reducible refine Below.alloc ?_ ?_ _)
      | (with_reducible refine Below.drew ?_)
      | (with_reducible refine bdrewN ?_ _)
      | (with_reducible refine Below.setCell ?_ ?_ _)
      | (with_reducible refine bthen (by assumption) ?_ ?_)
      | go_size)
theorem implReserveOf_c (a b c d pull : Int) (w : World) : Calls Try.prog 27 #[.agg #[.int .i64 a, .int .i64 b, .int .i64 c, .int .i64 d], .int .i64 pull] w fun e w' => e = .returned (.tuple #[.int .i64 (fReserve a b c d pull).1, .int .i64 (fReserve a b c d pull).2]) ∧ Below w.heap.size w w' := by
  cases hok : ropeOk a b c d <;> cases hp : inB pull 1 10000000
  all_goals
    try obtain ⟨⟨a0, a1⟩, ⟨b0, b1⟩, ⟨c0, c1⟩, ⟨d0, d1⟩⟩ := ropeOk_true hok
    try obtain ⟨p0, p1⟩ := inB_true hp
    go_enter Try.func27, Try.ntmps27
    go_wp2
    go_region_held3 (fun w' => w'.cell? ⟨w.heap.size, 0, none⟩ = some (.int .i64 a) ∧ w'.cell? ⟨w.heap.size, 1, none⟩ = some (.int .i64 b) ∧ w'.cell? ⟨w.heap.size, 2, none⟩ = some (.int .i64 c) ∧ w'.cell? ⟨w.heap.size, 3, none⟩ = some (.int .i64 d)) (simp [*, go_sem])
      (first
        | (go_at_call 53; (refine (isPull_c _ _).mono ?_); rintro e w' ⟨rfl, rfl⟩)
        | (go_at_call 52; (refine (roped_c _ _ _ _ _ _).mono ?_); rintro e w' ⟨rfl, hb⟩; obtain ⟨hc, hf, hz, hs⟩ := bfacts hb; try simp only [World.size_alloc, World.size_setCell, World.size_drew, World.heap_drewN] at hs))
    go_wp2
    go_returns
    refine ⟨by simp [fReserve, hok, hp], ?_⟩
    repeat' (first
      | (with_reducible exact Below.refl _ _)
      | (with_reducible assumption)
      | (with_reducible refine Below.alloc ?_ ?_ _)
      | (with_reducible refine Below.drew ?_)
      | (with_reducible refine bdrewN ?_ _)
      | (with_reducible refine Below.setCell ?_ ?_ _)
      | (with_reducible refine bthen (by assumption) ?_ ?_)
      | go_size)
theorem specReserveOf_c (a b c d pull : Int) (w : World) : Calls Try.prog 26 #[.agg #[.int .i64 a, .int .i64 b, .int .i64 c, .int .i64 d], .int .i64 pull] w fun e w' => e = .returned (.tuple #[.int .i64 (fReserve a b c d pull).1, .int .i64 (fReserve a b c d pull).2]) ∧ Below w.heap.size w w' := by
  cases hok : ropeOk a b c d <;> cases hp : inB pull 1 10000000
  all_goals
    try obtain ⟨⟨a0, a1⟩, ⟨b0, b1⟩, ⟨c0, c1⟩, ⟨d0, d1⟩⟩ := ropeOk_true hok
    try obtain ⟨p0, p1⟩ := inB_true hp
    go_enter Try.func26, Try.ntmps26
    go_wp2_with
      (first
        | (go_at_call 48; (refine (l06Ok_c a b c d _ _ (by simp) (by simp) (by simp) (by simp)).mono ?_); rintro e w' ⟨rfl, rfl⟩)
        | (go_at_call 51; (refine (l06Pull_c _ _).mono ?_); rintro e w' ⟨rfl, rfl⟩))
    go_returns
    refine ⟨by simp [fReserve, hok, hp], ?_⟩
    repeat' (first
      | (with_reducible exact Below.refl _ _)
      | (with_reducible assumption)
      | (with_reducible refine Below.alloc ?_ ?_ _)
      | (with_reducible refine Below.drew ?_)
      | (with_reducible refine bdrewN ?_ _)
      | (with_reducible refine Below.setCell ?_ ?_ _)
      | (with_reducible refine bthen (by assumption) ?_ ?_)
      | go_size)
theorem walk_FnExactReserveOf (a b c d pull : Int) (w : World) (_ : I64 a) (_ : I64 b) (_ : I64 c) (_ : I64 d) (_ : I64 pull) : Calls Try.prog 7 #[.agg #[.int .i64 a, .int .i64 b, .int .i64 c, .int .i64 d], .int .i64 pull] w fun e w' => e = .returned (.bool true) ∧ Below w.heap.size w w' := by
  go_enter Try.func7, Try.ntmps7
  go_wp2_with
    (first
      | (go_at_call 21; (refine (toRope_c _ _ _ _ _).mono ?_); rintro e w' ⟨rfl, hb⟩; obtain ⟨hc, hf, hz, hs⟩ := bfacts hb; try simp only [World.size_alloc, World.size_setCell, World.size_drew, World.heap_drewN] at hs)
      | (go_at_call 26; (refine (specReserveOf_c _ _ _ _ _ _).mono ?_); rintro e w' ⟨rfl, hb⟩; obtain ⟨hc, hf, hz, hs⟩ := bfacts hb; try simp only [World.size_alloc, World.size_setCell, World.size_drew, World.heap_drewN] at hs)
      | (go_at_call 27; (refine (implReserveOf_c _ _ _ _ _ _).mono ?_); rintro e w' ⟨rfl, hb⟩; obtain ⟨hc, hf, hz, hs⟩ := bfacts hb; try simp only [World.size_alloc, World.size_setCell, World.size_drew, World.heap_drewN] at hs))
  go_returns
  refine ⟨by simp, ?_⟩
  repeat' (first
    | (with_reducible exact Below.refl _ _)
    | (with_reducible assumption)
    | (with_reducible refine Below.alloc ?_ ?_ _)
    | (with_reducible refine Below.drew ?_)
    | (with_reducible refine bdrewN ?_ _)
    | (with_reducible refine Below.setCell ?_ ?_ _)
    | (with_reducible refine bthen (by assumption) ?_ ?_)
    | go_size)
end Go.Proofs.Ytcddihgdidlbkaa
