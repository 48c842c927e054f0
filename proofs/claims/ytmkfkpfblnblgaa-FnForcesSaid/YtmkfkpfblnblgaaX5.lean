/- Contracts of the program's functions on forces: tensions, nets, rides in steps. -/
import Derived.Test.YtmkfkpfblnblgaaX4
import Derived.Test.YtmkfkpfblnblgaaXP
namespace Go.Proofs.Ytmkfkpfblnblgaa
open Go.ChangeShapes Go.WideShapes Go.ChangeAt Go.RowKit
set_option linter.unusedVariables false
set_option linter.unusedSimpArgs false

set_option maxHeartbeats 2000000 in
theorem tension_c (A : Option Addr) (n c : Nat) (z : List Int) (f u x k r : Int) (hz : z.length = n * 2) (n0 : 1 ≤ n) (n1 : n ≤ 12) (hs : secsB z n = true) (x0 : 0 ≤ x) (x1 : x ≤ lenTo z n) (hl : lenTo z n ≤ 3000000) (k0 : 0 ≤ k) (k1 : k ≤ 100000) (r0 : 0 ≤ r) (r1 : r ≤ 20000) (w : World) (hr : RowI w A z) : Calls Try.prog 51 #[.agg #[.slice A n c, .int .i64 f, .int .i64 u], .int .i64 x, .int .i64 k, .int .i64 r] w fun e w' => e = .returned (.int .i64 (tenI z n x k r)) ∧ Below w.heap.size w w' := by
  have x2 : x ≤ 3000000 := by omega
  obtain ⟨a0, a1⟩ := carI_bd hs n0 (x := x) k0 k1
  obtain ⟨a2, a3⟩ := ropI_bd hs r0 r1 x0 x1 hl
  have w1 : IntKind.i64.wrap (carI z n x k + ropI z n x r) = carI z n x k + ropI z n x r := wrap_in (by omega) (by omega)
  have hc : tenI z n x k r = carI z n x k + ropI z n x r := rfl
  rw [hc]
  clear hc
  go_enter Try.func51, Try.ntmps51
  go_wp2
  first
    | go_region_held3 (fun w' => w'.cell? ⟨w.heap.size, 0, none⟩ = some (.slice (A) n c) ∧ w'.cell? ⟨w.heap.size, 1, none⟩ = some (.int .i64 (f)) ∧ w'.cell? ⟨w.heap.size, 2, none⟩ = some (.int .i64 (u)) ∧ w.heap.size < w'.heap.size ∧ RowI w' (A) z) (((try dsimp only at *); (try go_split_ands); (repeat' apply And.intro) <;> first | (with_reducible assumption) | (rw [qc _ _ (by with_reducible assumption)]; with_reducible assumption) | (with_reducible exact qz _ (by with_reducible assumption)) | (with_reducible exact RowI.below (by with_reducible assumption) (by with_reducible assumption)) | (simp [*, go_sem]; done) | omega | (refine RowI.drew ?_; simp [*]; done) | ((repeat (first | (with_reducible assumption) | (with_reducible refine RowI.drew ?_) | (with_reducible refine RowI.drewN ?_ _) | (with_reducible refine RowI.alloc ?_ _) | (with_reducible refine RowI.below ?_ (by with_reducible assumption)))); done) | (refine RowI.below ?_ (by assumption); first | (simp [*]; done) | (refine RowI.drew ?_; simp [*]; done))))
        (first
          | (go_at_call 45; (apply Calls.mono; focus ((with_reducible apply (carPull_c _ _ _ z _ _ _ _ hz n0 n1 hs x0 x2 k0 k1)); (all_goals (first | (with_reducible assumption) | omega | ((repeat (first | (with_reducible assumption) | (with_reducible refine RowI.drewN ?_ _) | (with_reducible refine RowI.drew ?_) | (with_reducible refine RowI.alloc ?_ _) | (with_reducible refine RowI.below ?_ (by with_reducible assumption)))); done) | assumption | (simp; done) | (simp [*]; done))); done)); rintro e w' ⟨rfl, hb⟩; obtain ⟨qc, qf, qz, qs⟩ := bfacts hb; (try simp only [World.size_alloc, World.size_setCell, World.size_drew, World.heap_drewN] at qs))
          | (go_at_call 49; (apply Calls.mono; focus ((with_reducible apply (ropePull_c _ _ _ z _ _ _ _ hz n1 hs x0 x1 hl r0 r1)); (all_goals (first | (with_reducible assumption) | omega | ((repeat (first | (with_reducible assumption) | (with_reducible refine RowI.drewN ?_ _) | (with_reducible refine RowI.drew ?_) | (with_reducible refine RowI.alloc ?_ _) | (with_reducible refine RowI.below ?_ (by with_reducible assumption)))); done) | assumption | (simp; done) | (simp [*]; done))); done)); rintro e w' ⟨rfl, hb⟩; obtain ⟨qc, qf, qz, qs⟩ := bfacts hb; (try simp only [World.size_alloc, World.size_setCell, World.size_drew, World.heap_drewN] at qs)))
    | fail
  all_goals
    go_wp2
    go_ret
    refine ⟨rfl, ?_⟩
    repeat' (first
      | (with_reducible exact Below.refl _ _)
      | (with_reducible assumption)
      | (with_reducible refine Below.alloc ?_ ?_ _)
      | (with_reducible refine Below.drew ?_)
      | (with_reducible refine bdrewN ?_ _)
      | (with_reducible refine Below.setCell ?_ ?_ _)
      | (with_reducible refine bthen (by assumption) ?_ ?_)
      | go_size)
set_option maxHeartbeats 2000000 in
theorem netPull_c (A : Option Addr) (n c : Nat) (z : List Int) (f u x k o r : Int) (hz : z.length = n * 2) (n0 : 1 ≤ n) (n1 : n ≤ 12) (hs : secsB z n = true) (x0 : 0 ≤ x) (x1 : x ≤ lenTo z n) (hl : lenTo z n ≤ 3000000) (k0 : 0 ≤ k) (k1 : k ≤ 100000) (o0 : 0 ≤ o) (o1 : o ≤ 100000) (r0 : 0 ≤ r) (r1 : r ≤ 20000) (w : World) (hr : RowI w A z) : Calls Try.prog 53 #[.agg #[.slice A n c, .int .i64 f, .int .i64 u], .int .i64 x, .int .i64 k, .int .i64 o, .int .i64 r] w fun e w' => e = .returned (.int .i64 (netI z n x k o r)) ∧ Below w.heap.size w w' := by
  have y0 : 0 ≤ lenTo z n - x := by omega
  have y1 : lenTo z n - x ≤ lenTo z n := by omega
  obtain ⟨a0, a1⟩ := tenI_bd hs n0 k0 k1 r0 r1 x0 x1 hl
  obtain ⟨a2, a3⟩ := tenI_bd hs n0 o0 o1 r0 r1 y0 y1 hl
  have w0 : IntKind.i64.wrap (lenTo z n - x) = lenTo z n - x := wrap_in (by omega) (by omega)
  have w1 : IntKind.i64.wrap (tenI z n x k r - tenI z n (lenTo z n - x) o r) = tenI z n x k r - tenI z n (lenTo z n - x) o r := wrap_in (by omega) (by omega)
  have hc : netI z n x k o r = tenI z n x k r - tenI z n (lenTo z n - x) o r := rfl
  rw [hc]
  clear hc
  go_enter Try.func53, Try.ntmps53
  go_wp2
  first
    | go_region_held3 (fun w' => w'.cell? ⟨w.heap.size, 0, none⟩ = some (.slice (A) n c) ∧ w'.cell? ⟨w.heap.size, 1, none⟩ = some (.int .i64 (f)) ∧ w'.cell? ⟨w.heap.size, 2, none⟩ = some (.int .i64 (u)) ∧ w.heap.size < w'.heap.size ∧ RowI w' (A) z) (((try dsimp only at *); (try go_split_ands); (repeat' apply And.intro) <;> first | (with_reducible assumption) | (rw [qc _ _ (by with_reducible assumption)]; with_reducible assumption) | (with_reducible exact qz _ (by with_reducible assumption)) | (with_reducible exact RowI.below (by with_reducible assumption) (by with_reducible assumption)) | (simp [*, go_sem]; done) | omega | (refine RowI.drew ?_; simp [*]; done) | ((repeat (first | (with_reducible assumption) | (with_reducible refine RowI.drew ?_) | (with_reducible refine RowI.drewN ?_ _) | (with_reducible refine RowI.alloc ?_ _) | (with_reducible refine RowI.below ?_ (by with_reducible assumption)))); done) | (refine RowI.below ?_ (by assumption); first | (simp [*]; done) | (refine RowI.drew ?_; simp [*]; done))))
        (first
          | (go_at_call 59; (apply Calls.mono; focus ((with_reducible apply (length_c _ _ _ z _ _ hz n1 hs)); (all_goals (first | (with_reducible assumption) | omega | ((repeat (first | (with_reducible assumption) | (with_reducible refine RowI.drewN ?_ _) | (with_reducible refine RowI.drew ?_) | (with_reducible refine RowI.alloc ?_ _) | (with_reducible refine RowI.below ?_ (by with_reducible assumption)))); done) | assumption | (simp; done) | (simp [*]; done))); done)); rintro e w' ⟨rfl, hb⟩; obtain ⟨qc, qf, qz, qs⟩ := bfacts hb; (try simp only [World.size_alloc, World.size_setCell, World.size_drew, World.heap_drewN] at qs))
          | (go_at_call 51; (apply Calls.mono; focus ((with_reducible apply (tension_c _ _ _ z _ _ x k r hz n0 n1 hs x0 x1 hl k0 k1 r0 r1)); (all_goals (first | (with_reducible assumption) | omega | ((repeat (first | (with_reducible assumption) | (with_reducible refine RowI.drewN ?_ _) | (with_reducible refine RowI.drew ?_) | (with_reducible refine RowI.alloc ?_ _) | (with_reducible refine RowI.below ?_ (by with_reducible assumption)))); done) | assumption | (simp; done) | (simp [*]; done))); done)); rintro e w' ⟨rfl, hb⟩; obtain ⟨qc, qf, qz, qs⟩ := bfacts hb; (try simp only [World.size_alloc, World.size_setCell, World.size_drew, World.heap_drewN] at qs))
          | (go_at_call 51; (apply Calls.mono; focus ((with_reducible apply (tension_c _ _ _ z _ _ (lenTo z n - x) o r hz n0 n1 hs y0 y1 hl o0 o1 r0 r1)); (all_goals (first | (with_reducible assumption) | omega | ((repeat (first | (with_reducible assumption) | (with_reducible refine RowI.drewN ?_ _) | (with_reducible refine RowI.drew ?_) | (with_reducible refine RowI.alloc ?_ _) | (with_reducible refine RowI.below ?_ (by with_reducible assumption)))); done) | assumption | (simp; done) | (simp [*]; done))); done)); rintro e w' ⟨rfl, hb⟩; obtain ⟨qc, qf, qz, qs⟩ := bfacts hb; (try simp only [World.size_alloc, World.size_setCell, World.size_drew, World.heap_drewN] at qs)))
    | fail
  all_goals
    go_wp2
    go_ret
    refine ⟨rfl, ?_⟩
    repeat' (first
      | (with_reducible exact Below.refl _ _)
      | (with_reducible assumption)
      | (with_reducible refine Below.alloc ?_ ?_ _)
      | (with_reducible refine Below.drew ?_)
      | (with_reducible refine bdrewN ?_ _)
      | (with_reducible refine Below.setCell ?_ ?_ _)
      | (with_reducible refine bthen (by assumption) ?_ ?_)
      | go_size)
set_option maxHeartbeats 1000000 in
theorem ridden_c (A : Option Addr) (n c : Nat) (z : List Int) (f u step : Int) (fine : Bool) (hz : z.length = n * 2) (hn : n ≤ 1048576) (w : World) (hr : RowI w A z) : Calls Try.prog 56 #[.agg #[.slice A n c, .int .i64 f, .int .i64 u], .int .i64 step, .bool fine] w fun e w' => e = .returned (.int .i64 (rideCode (trackB z n f u) (fine && inB step 1 3000000) (lenTo z n) step)) ∧ Below w.heap.size w w' := by
  cases ht : trackB z n f u
  · go_enter Try.func56, Try.ntmps56
    go_wp2_with
      (first
        | (go_at_call 84; (apply Calls.mono; focus ((with_reducible apply (validTrack_c _ _ _ z _ _ hz hn)); (all_goals (first | (with_reducible assumption) | omega | ((repeat (first | (with_reducible assumption) | (with_reducible refine RowI.drewN ?_ _) | (with_reducible refine RowI.drew ?_) | (with_reducible refine RowI.alloc ?_ _) | (with_reducible refine RowI.below ?_ (by with_reducible assumption)))); done) | assumption | (simp; done) | (simp [*]; done))); done)); rintro e w' ⟨rfl, hb⟩; obtain ⟨qc, qf, qz, qs⟩ := bfacts hb; (try simp only [World.size_alloc, World.size_setCell, World.size_drew, World.heap_drewN] at qs)))
    go_returns
    refine ⟨by simp [rideCode], ?_⟩
    repeat' (first
      | (with_reducible exact Below.refl _ _)
      | (with_reducible assumption)
      | (with_reducible refine Below.alloc ?_ ?_ _)
      | (with_reducible refine Below.drew ?_)
      | (with_reducible refine bdrewN ?_ _)
      | (with_reducible refine Below.setCell ?_ ?_ _)
      | (with_reducible refine bthen (by assumption) ?_ ?_)
      | go_size)
  · obtain ⟨⟨n0, n1⟩, hs, ⟨l0, l1⟩, _⟩ := trackB_true ht
    cases fine <;> cases hx : inB step 1 3000000
    case true.true =>
      obtain ⟨s0, s1⟩ := inB_true hx
      have q0 : 0 ≤ lenTo z n / step := Int.ediv_nonneg (by omega) (by omega)
      have q1 : lenTo z n / step ≤ lenTo z n := Int.ediv_le_self _ (by omega)
      by_cases hq : 20000 < lenTo z n / step
      all_goals
        go_enter Try.func56, Try.ntmps56
        go_wp2_with
          (first
            | (go_at_call 84; (apply Calls.mono; focus ((with_reducible apply (validTrack_c _ _ _ z _ _ hz hn)); (all_goals (first | (with_reducible assumption) | omega | ((repeat (first | (with_reducible assumption) | (with_reducible refine RowI.drewN ?_ _) | (with_reducible refine RowI.drew ?_) | (with_reducible refine RowI.alloc ?_ _) | (with_reducible refine RowI.below ?_ (by with_reducible assumption)))); done) | assumption | (simp; done) | (simp [*]; done))); done)); rintro e w' ⟨rfl, hb⟩; obtain ⟨qc, qf, qz, qs⟩ := bfacts hb; (try simp only [World.size_alloc, World.size_setCell, World.size_drew, World.heap_drewN] at qs); have za : w.heap.size < w'.heap.size := (by omega); have pa0 : w'.cell? ⟨w.heap.size, 0, none⟩ = some (.slice A n c) := (by rw [qc _ _ (by first | assumption | (simp; done) | (simp; omega))]; first | assumption | (simp; done) | (simp [*]; done) | (simp [*, go_sem]; done)); have pa1 : w'.cell? ⟨w.heap.size, 1, none⟩ = some (.int .i64 f) := (by rw [qc _ _ (by first | assumption | (simp; done) | (simp; omega))]; first | assumption | (simp; done) | (simp [*]; done) | (simp [*, go_sem]; done)); have pa2 : w'.cell? ⟨w.heap.size, 2, none⟩ = some (.int .i64 u) := (by rw [qc _ _ (by first | assumption | (simp; done) | (simp; omega))]; first | assumption | (simp; done) | (simp [*]; done) | (simp [*, go_sem]; done)))
            | (go_at_call 59; (apply Calls.mono; focus ((with_reducible apply (length_c _ _ _ z _ _ hz n1 hs)); (all_goals (first | (with_reducible assumption) | omega | ((repeat (first | (with_reducible assumption) | (with_reducible refine RowI.drewN ?_ _) | (with_reducible refine RowI.drew ?_) | (with_reducible refine RowI.alloc ?_ _) | (with_reducible refine RowI.below ?_ (by with_reducible assumption)))); done) | assumption | (simp; done) | (simp [*]; done))); done)); rintro e w' ⟨rfl, hb⟩; obtain ⟨qc, qf, qz, qs⟩ := bfacts hb; (try simp only [World.size_alloc, World.size_setCell, World.size_drew, World.heap_drewN] at qs); have za : w.heap.size < w'.heap.size := (by omega); have pa0 : w'.cell? ⟨w.heap.size, 0, none⟩ = some (.slice A n c) := (by rw [qc _ _ (by first | assumption | (simp; done) | (simp; omega))]; first | assumption | (simp; done) | (simp [*]; done) | (simp [*, go_sem]; done)); have pa1 : w'.cell? ⟨w.heap.size, 1, none⟩ = some (.int .i64 f) := (by rw [qc _ _ (by first | assumption | (simp; done) | (simp; omega))]; first | assumption | (simp; done) | (simp [*]; done) | (simp [*, go_sem]; done)); have pa2 : w'.cell? ⟨w.heap.size, 2, none⟩ = some (.int .i64 u) := (by rw [qc _ _ (by first | assumption | (simp; done) | (simp; omega))]; first | assumption | (simp; done) | (simp [*]; done) | (simp [*, go_sem]; done)))
            | (go_at_call 77; go_call (within_v hx _); rintro e w' ⟨rfl, rfl⟩))
        go_returns
        refine ⟨by simp [rideCode, hq], ?_⟩
        repeat' (first
          | (with_reducible exact Below.refl _ _)
          | (with_reducible assumption)
          | (with_reducible refine Below.alloc ?_ ?_ _)
          | (with_reducible refine Below.drew ?_)
          | (with_reducible refine bdrewN ?_ _)
          | (with_reducible refine Below.setCell ?_ ?_ _)
          | (with_reducible refine bthen (by assumption) ?_ ?_)
          | go_size)
    all_goals
      go_enter Try.func56, Try.ntmps56
      go_wp2_with
        (first
          | (go_at_call 84; (apply Calls.mono; focus ((with_reducible apply (validTrack_c _ _ _ z _ _ hz hn)); (all_goals (first | (with_reducible assumption) | omega | ((repeat (first | (with_reducible assumption) | (with_reducible refine RowI.drewN ?_ _) | (with_reducible refine RowI.drew ?_) | (with_reducible refine RowI.alloc ?_ _) | (with_reducible refine RowI.below ?_ (by with_reducible assumption)))); done) | assumption | (simp; done) | (simp [*]; done))); done)); rintro e w' ⟨rfl, hb⟩; obtain ⟨qc, qf, qz, qs⟩ := bfacts hb; (try simp only [World.size_alloc, World.size_setCell, World.size_drew, World.heap_drewN] at qs); have za : w.heap.size < w'.heap.size := (by omega); have pa0 : w'.cell? ⟨w.heap.size, 0, none⟩ = some (.slice A n c) := (by rw [qc _ _ (by first | assumption | (simp; done) | (simp; omega))]; first | assumption | (simp; done) | (simp [*]; done) | (simp [*, go_sem]; done)); have pa1 : w'.cell? ⟨w.heap.size, 1, none⟩ = some (.int .i64 f) := (by rw [qc _ _ (by first | assumption | (simp; done) | (simp; omega))]; first | assumption | (simp; done) | (simp [*]; done) | (simp [*, go_sem]; done)); have pa2 : w'.cell? ⟨w.heap.size, 2, none⟩ = some (.int .i64 u) := (by rw [qc _ _ (by first | assumption | (simp; done) | (simp; omega))]; first | assumption | (simp; done) | (simp [*]; done) | (simp [*, go_sem]; done)))
          | (go_at_call 59; (apply Calls.mono; focus ((with_reducible apply (length_c _ _ _ z _ _ hz n1 hs)); (all_goals (first | (with_reducible assumption) | omega | ((repeat (first | (with_reducible assumption) | (with_reducible refine RowI.drewN ?_ _) | (with_reducible refine RowI.drew ?_) | (with_reducible refine RowI.alloc ?_ _) | (with_reducible refine RowI.below ?_ (by with_reducible assumption)))); done) | assumption | (simp; done) | (simp [*]; done))); done)); rintro e w' ⟨rfl, hb⟩; obtain ⟨qc, qf, qz, qs⟩ := bfacts hb; (try simp only [World.size_alloc, World.size_setCell, World.size_drew, World.heap_drewN] at qs); have za : w.heap.size < w'.heap.size := (by omega); have pa0 : w'.cell? ⟨w.heap.size, 0, none⟩ = some (.slice A n c) := (by rw [qc _ _ (by first | assumption | (simp; done) | (simp; omega))]; first | assumption | (simp; done) | (simp [*]; done) | (simp [*, go_sem]; done)); have pa1 : w'.cell? ⟨w.heap.size, 1, none⟩ = some (.int .i64 f) := (by rw [qc _ _ (by first | assumption | (simp; done) | (simp; omega))]; first | assumption | (simp; done) | (simp [*]; done) | (simp [*, go_sem]; done)); have pa2 : w'.cell? ⟨w.heap.size, 2, none⟩ = some (.int .i64 u) := (by rw [qc _ _ (by first | assumption | (simp; done) | (simp; omega))]; first | assumption | (simp; done) | (simp [*]; done) | (simp [*, go_sem]; done)))
          | (go_at_call 77; go_call (within_v hx _); rintro e w' ⟨rfl, rfl⟩))
      go_returns
      refine ⟨by simp [rideCode], ?_⟩
      repeat' (first
        | (with_reducible exact Below.refl _ _)
        | (with_reducible assumption)
        | (with_reducible refine Below.alloc ?_ ?_ _)
        | (with_reducible refine Below.drew ?_)
        | (with_reducible refine bdrewN ?_ _)
        | (with_reducible refine Below.setCell ?_ ?_ _)
        | (with_reducible refine bthen (by assumption) ?_ ?_)
        | go_size)
end Go.Proofs.Ytmkfkpfblnblgaa
