/- Contracts of the program's functions on forces. -/
import Derived.Test.YtmkfkpfblnblgaaX3
namespace Go.Proofs.Ytmkfkpfblnblgaa
open Go.ChangeShapes Go.WideShapes Go.ChangeAt Go.RowKit
set_option linter.unusedVariables false
set_option linter.unusedSimpArgs false

theorem isKilos_c (n : Int) (w : World) : Calls Try.prog 44 #[.int .i64 n] w fun e w' => e = .returned (.bool (inB n 0 100000)) ∧ w = w' := by
  go_enter Try.func44, Try.ntmps44
  go_wp2_with
    (first
      | (go_at_call 77; go_call (within_c _ _ _ _); rintro e w' ⟨rfl, rfl⟩))
  all_goals (go_ret; simp [*])
theorem isKilos_v {n : Int} {b : Bool} (h : inB n 0 100000 = b) (w : World) : Calls Try.prog 44 #[.int .i64 n] w fun e w' => e = .returned (.bool b) ∧ w = w' := by
  subst h
  exact isKilos_c n w
theorem isRopeMass_c (n : Int) (w : World) : Calls Try.prog 48 #[.int .i64 n] w fun e w' => e = .returned (.bool (inB n 0 20000)) ∧ w = w' := by
  go_enter Try.func48, Try.ntmps48
  go_wp2_with
    (first
      | (go_at_call 77; go_call (within_c _ _ _ _); rintro e w' ⟨rfl, rfl⟩))
  all_goals (go_ret; simp [*])
theorem isRopeMass_v {n : Int} {b : Bool} (h : inB n 0 20000 = b) (w : World) : Calls Try.prog 48 #[.int .i64 n] w fun e w' => e = .returned (.bool b) ∧ w = w' := by
  subst h
  exact isRopeMass_c n w
set_option maxHeartbeats 1000000 in
theorem onTrack_c (A : Option Addr) (n c : Nat) (z : List Int) (f u x : Int) (hz : z.length = n * 2) (hn : n ≤ 1048576) (w : World) (hr : RowI w A z) : Calls Try.prog 76 #[.agg #[.slice A n c, .int .i64 f, .int .i64 u], .int .i64 x] w fun e w' => e = .returned (.int .i64 (codeOf (trackB z n f u) (inB x 0 (lenTo z n)))) ∧ Below w.heap.size w w' := by
  cases ht : trackB z n f u
  · go_enter Try.func76, Try.ntmps76
    go_wp2_with
      (first
        | (go_at_call 84; (apply Calls.mono; focus ((apply (validTrack_c _ _ _ z _ _ hz hn)); (all_goals (first | (with_reducible assumption) | omega | (repeat (first | (with_reducible assumption) | (with_reducible exact RowI.new _ _ _) | ((with_reducible refine RowI.new_at ?_); (simp; done)) | (with_reducible refine RowI.drewN ?_ _) | (with_reducible refine RowI.drew ?_) | (with_reducible refine RowI.alloc ?_ _) | (with_reducible refine RowI.below ?_ (by with_reducible assumption)) | (simp [*]; done))))); done)); rintro e w' ⟨rfl, hb⟩; obtain ⟨qc, qf, qz, qs⟩ := bfacts hb; (try simp only [World.size_alloc, World.size_setCell, World.size_drew, World.heap_drewN] at qs)))
    go_returns
    refine ⟨by simp, ?_⟩
    repeat' (first
      | (with_reducible exact Below.refl _ _)
      | (with_reducible assumption)
      | (with_reducible refine Below.alloc ?_ ?_ _)
      | (with_reducible refine Below.drew ?_)
      | (with_reducible refine bdrewN ?_ _)
      | (with_reducible refine Below.setCell ?_ ?_ _)
      | (with_reducible refine bthen (by assumption) ?_ ?_)
      | go_size)
  · obtain ⟨⟨n0, n1⟩, hs, ⟨l0, l1⟩, _⟩ := trackB_true ht
    cases hx : inB x 0 (lenTo z n)
    all_goals
      go_enter Try.func76, Try.ntmps76
      go_wp2_with
        (first
          | (go_at_call 84; (apply Calls.mono; focus ((apply (validTrack_c _ _ _ z _ _ hz hn)); (all_goals (first | (with_reducible assumption) | omega | (repeat (first | (with_reducible assumption) | (with_reducible exact RowI.new _ _ _) | ((with_reducible refine RowI.new_at ?_); (simp; done)) | (with_reducible refine RowI.drewN ?_ _) | (with_reducible refine RowI.drew ?_) | (with_reducible refine RowI.alloc ?_ _) | (with_reducible refine RowI.below ?_ (by with_reducible assumption)) | (simp [*]; done))))); done)); rintro e w' ⟨rfl, hb⟩; obtain ⟨qc, qf, qz, qs⟩ := bfacts hb; (try simp only [World.size_alloc, World.size_setCell, World.size_drew, World.heap_drewN] at qs); have za : w.heap.size < w'.heap.size := (by omega); have pa0 : w'.cell? ⟨w.heap.size, 0, none⟩ = some (.slice A n c) := (by rw [qc _ _ (by first | assumption | (simp; done) | (simp; omega))]; first | assumption | (simp; done) | (simp [*]; done) | (simp [*, go_sem]; done)); have pa1 : w'.cell? ⟨w.heap.size, 1, none⟩ = some (.int .i64 f) := (by rw [qc _ _ (by first | assumption | (simp; done) | (simp; omega))]; first | assumption | (simp; done) | (simp [*]; done) | (simp [*, go_sem]; done)); have pa2 : w'.cell? ⟨w.heap.size, 2, none⟩ = some (.int .i64 u) := (by rw [qc _ _ (by first | assumption | (simp; done) | (simp; omega))]; first | assumption | (simp; done) | (simp [*]; done) | (simp [*, go_sem]; done)))
          | (go_at_call 59; (apply Calls.mono; focus ((apply (length_c _ _ _ z _ _ hz n1 hs)); (all_goals (first | (with_reducible assumption) | omega | (repeat (first | (with_reducible assumption) | (with_reducible exact RowI.new _ _ _) | ((with_reducible refine RowI.new_at ?_); (simp; done)) | (with_reducible refine RowI.drewN ?_ _) | (with_reducible refine RowI.drew ?_) | (with_reducible refine RowI.alloc ?_ _) | (with_reducible refine RowI.below ?_ (by with_reducible assumption)) | (simp [*]; done))))); done)); rintro e w' ⟨rfl, hb⟩; obtain ⟨qc, qf, qz, qs⟩ := bfacts hb; (try simp only [World.size_alloc, World.size_setCell, World.size_drew, World.heap_drewN] at qs); have za : w.heap.size < w'.heap.size := (by omega); have pa0 : w'.cell? ⟨w.heap.size, 0, none⟩ = some (.slice A n c) := (by rw [qc _ _ (by first | assumption | (simp; done) | (simp; omega))]; first | assumption | (simp; done) | (simp [*]; done) | (simp [*, go_sem]; done)); have pa1 : w'.cell? ⟨w.heap.size, 1, none⟩ = some (.int .i64 f) := (by rw [qc _ _ (by first | assumption | (simp; done) | (simp; omega))]; first | assumption | (simp; done) | (simp [*]; done) | (simp [*, go_sem]; done)); have pa2 : w'.cell? ⟨w.heap.size, 2, none⟩ = some (.int .i64 u) := (by rw [qc _ _ (by first | assumption | (simp; done) | (simp; omega))]; first | assumption | (simp; done) | (simp [*]; done) | (simp [*, go_sem]; done)))
          | (go_at_call 77; go_call (within_v hx _); rintro e w' ⟨rfl, rfl⟩))
      go_returns
      refine ⟨by simp, ?_⟩
      repeat' (first
        | (with_reducible exact Below.refl _ _)
        | (with_reducible assumption)
        | (with_reducible refine Below.alloc ?_ ?_ _)
        | (with_reducible refine Below.drew ?_)
        | (with_reducible refine bdrewN ?_ _)
        | (with_reducible refine Below.setCell ?_ ?_ _)
        | (with_reducible refine bthen (by assumption) ?_ ?_)
        | go_size)
set_option maxHeartbeats 1000000 in
theorem loaded_c (A : Option Addr) (n c : Nat) (z : List Int) (f u x : Int) (fine : Bool) (hz : z.length = n * 2) (hn : n ≤ 1048576) (w : World) (hr : RowI w A z) : Calls Try.prog 43 #[.agg #[.slice A n c, .int .i64 f, .int .i64 u], .int .i64 x, .bool fine] w fun e w' => e = .returned (.int .i64 (codeOf (trackB z n f u) (inB x 0 (lenTo z n) && fine))) ∧ Below w.heap.size w w' := by
  cases ht : trackB z n f u <;> cases hx : inB x 0 (lenTo z n) <;> cases fine
  all_goals
    go_enter Try.func43, Try.ntmps43
    go_wp2_with
      (first
        | (go_at_call 76; (apply Calls.mono; focus ((apply (onTrack_c _ _ _ z _ _ _ hz hn)); (all_goals (first | (with_reducible assumption) | omega | (repeat (first | (with_reducible assumption) | (with_reducible exact RowI.new _ _ _) | ((with_reducible refine RowI.new_at ?_); (simp; done)) | (with_reducible refine RowI.drewN ?_ _) | (with_reducible refine RowI.drew ?_) | (with_reducible refine RowI.alloc ?_ _) | (with_reducible refine RowI.below ?_ (by with_reducible assumption)) | (simp [*]; done))))); done)); rintro e w' ⟨rfl, hb⟩; obtain ⟨qc, qf, qz, qs⟩ := bfacts hb; (try simp only [World.size_alloc, World.size_setCell, World.size_drew, World.heap_drewN] at qs)))
    go_returns
    refine ⟨by simp [*], ?_⟩
    repeat' (first
      | (with_reducible exact Below.refl _ _)
      | (with_reducible assumption)
      | (with_reducible refine Below.alloc ?_ ?_ _)
      | (with_reducible refine Below.drew ?_)
      | (with_reducible refine bdrewN ?_ _)
      | (with_reducible refine Below.setCell ?_ ?_ _)
      | (with_reducible refine bthen (by assumption) ?_ ?_)
      | go_size)
set_option maxHeartbeats 1000000 in
theorem carPull_c (A : Option Addr) (n c : Nat) (z : List Int) (f u x k : Int) (hz : z.length = n * 2) (n0 : 1 ≤ n) (n1 : n ≤ 12) (hs : secsB z n = true) (x0 : 0 ≤ x) (x1 : x ≤ 3000000) (k0 : 0 ≤ k) (k1 : k ≤ 100000) (w : World) (hr : RowI w A z) : Calls Try.prog 45 #[.agg #[.slice A n c, .int .i64 f, .int .i64 u], .int .i64 x, .int .i64 k] w fun e w' => e = .returned (.int .i64 (carI z n x k)) ∧ Below w.heap.size w w' := by
  obtain ⟨⟨a0, a1⟩, a2, a3⟩ := car_arg hs n0 (x := x) k0 k1
  have hc : carI z n x k = divR (k * 981 * grdI z n x) 100000 := rfl
  rw [hc]
  clear hc
  go_enter Try.func45, Try.ntmps45
  go_wp2_with
    (first
      | (go_at_call 79; (apply Calls.mono; focus ((apply (gradeAt_c _ _ _ z _ _ _ hz n0 n1 hs x0 x1)); (all_goals (first | (with_reducible assumption) | omega | (repeat (first | (with_reducible assumption) | (with_reducible exact RowI.new _ _ _) | ((with_reducible refine RowI.new_at ?_); (simp; done)) | (with_reducible refine RowI.drewN ?_ _) | (with_reducible refine RowI.drew ?_) | (with_reducible refine RowI.alloc ?_ _) | (with_reducible refine RowI.below ?_ (by with_reducible assumption)) | (simp [*]; done))))); done)); rintro e w' ⟨rfl, hb⟩; obtain ⟨qc, qf, qz, qs⟩ := bfacts hb; (try simp only [World.size_alloc, World.size_setCell, World.size_drew, World.heap_drewN] at qs))
      | (go_at_call 78; go_call (nearest_c); rintro e w' ⟨rfl, nq, rfl⟩))
  go_returns
  refine ⟨rfl, ?_⟩
  repeat' (first
    | (with_reducible exact Below.refl _ _)
    | (with_reducible assumption)
    | (with_reducible refine Below.alloc ?_ ?_ _)
    | (with_reducible refine Below.drew ?_)
    | (with_reducible refine bdrewN ?_ _)
    | (with_reducible refine Below.setCell ?_ ?_ _)
    | (with_reducible refine bthen (by assumption) ?_ ?_)
    | go_size)
set_option maxHeartbeats 4000000 in
theorem ropePull_c (A : Option Addr) (n c : Nat) (z : List Int) (f u x r : Int) (hz : z.length = n * 2) (n1 : n ≤ 12) (hs : secsB z n = true) (x0 : 0 ≤ x) (x1 : x ≤ lenTo z n) (hl : lenTo z n ≤ 3000000) (r0 : 0 ≤ r) (r1 : r ≤ 20000) (w : World) (hr : RowI w A z) : Calls Try.prog 49 #[.agg #[.slice A n c, .int .i64 f, .int .i64 u], .int .i64 x, .int .i64 r] w fun e w' => e = .returned (.int .i64 (ropI z n x r)) ∧ Below w.heap.size w w' := by
  obtain ⟨⟨a0, a1⟩, ⟨a2, a3⟩, a4, a5⟩ := rop_arg hs r0 r1 x0 x1 hl
  obtain ⟨h0, h1⟩ := hgtI_bd hs (show 0 ≤ lenTo z n by omega) hl
  obtain ⟨h2, h3⟩ := hgtI_bd hs x0 (show x ≤ 3000000 by omega)
  have b0 : 0 ≤ lenTo z n := by omega
  have x2 : x ≤ 3000000 := by omega
  have w1 : IntKind.i64.wrap (hgtI z n (lenTo z n) - hgtI z n x) = hgtI z n (lenTo z n) - hgtI z n x := wrap_in (by omega) (by omega)
  have w2 : IntKind.i64.wrap (r * (hgtI z n (lenTo z n) - hgtI z n x)) = r * (hgtI z n (lenTo z n) - hgtI z n x) := wrap_in (by omega) (by omega)
  have w3 : IntKind.i64.wrap (r * (hgtI z n (lenTo z n) - hgtI z n x) * 981) = r * (hgtI z n (lenTo z n) - hgtI z n x) * 981 := wrap_in (by omega) (by omega)
  have w4 : -4000000000000000000 ≤ r * (hgtI z n (lenTo z n) - hgtI z n x) * 981 := by omega
  have w5 : r * (hgtI z n (lenTo z n) - hgtI z n x) * 981 ≤ 4000000000000000000 := by omega
  have hc : ropI z n x r = divR (r * (hgtI z n (lenTo z n) - hgtI z n x) * 981) 100000000 := rfl
  rw [hc]
  clear hc
  go_enter Try.func49, Try.ntmps49
  go_wp2
  first
    | go_region_held3 (fun w' => w'.cell? ⟨w.heap.size, 0, none⟩ = some (.slice (A) n c) ∧ w'.cell? ⟨w.heap.size, 1, none⟩ = some (.int .i64 (f)) ∧ w'.cell? ⟨w.heap.size, 2, none⟩ = some (.int .i64 (u)) ∧ w.heap.size < w'.heap.size ∧ RowI w' (A) z) (((try dsimp only at *); (try go_split_ands); (repeat' apply And.intro) <;> first | (with_reducible assumption) | (rw [qc _ _ (by with_reducible assumption)]; with_reducible assumption) | (with_reducible exact qz _ (by with_reducible assumption)) | (with_reducible exact RowI.below (by with_reducible assumption) (by with_reducible assumption)) | (simp [*, go_sem]; done) | omega | (refine RowI.drew ?_; simp [*]; done) | ((repeat (first | (with_reducible assumption) | (with_reducible refine RowI.drew ?_) | (with_reducible refine RowI.drewN ?_ _) | (with_reducible refine RowI.alloc ?_ _) | (with_reducible refine RowI.below ?_ (by with_reducible assumption)))); done) | (refine RowI.below ?_ (by assumption); first | (simp [*]; done) | (refine RowI.drew ?_; simp [*]; done))))
        (first
          | (go_at_call 59; (apply Calls.mono; focus ((apply (length_c _ _ _ z _ _ hz n1 hs)); (all_goals (first | (with_reducible assumption) | omega | (repeat (first | (with_reducible assumption) | (with_reducible exact RowI.new _ _ _) | ((with_reducible refine RowI.new_at ?_); (simp; done)) | (with_reducible refine RowI.drewN ?_ _) | (with_reducible refine RowI.drew ?_) | (with_reducible refine RowI.alloc ?_ _) | (with_reducible refine RowI.below ?_ (by with_reducible assumption)) | (simp [*]; done))))); done)); rintro e w' ⟨rfl, hb⟩; obtain ⟨qc, qf, qz, qs⟩ := bfacts hb; (try simp only [World.size_alloc, World.size_setCell, World.size_drew, World.heap_drewN] at qs))
          | (go_at_call 82; (apply Calls.mono; focus ((apply (heightAt_c _ _ _ z _ _ _ hz n1 hs)); (all_goals (first | (with_reducible assumption) | omega | (repeat (first | (with_reducible assumption) | (with_reducible exact RowI.new _ _ _) | ((with_reducible refine RowI.new_at ?_); (simp; done)) | (with_reducible refine RowI.drewN ?_ _) | (with_reducible refine RowI.drew ?_) | (with_reducible refine RowI.alloc ?_ _) | (with_reducible refine RowI.below ?_ (by with_reducible assumption)) | (simp [*]; done))))); done)); rintro e w' ⟨rfl, hb⟩; obtain ⟨qc, qf, qz, qs⟩ := bfacts hb; (try simp only [World.size_alloc, World.size_setCell, World.size_drew, World.heap_drewN] at qs))
          | (go_at_call 78; (apply Calls.mono; focus ((apply nearest_c _ _ w4 w5 (by decide) (by decide)); done)); rintro e w' ⟨rfl, nq, rfl⟩))
    | fail
  all_goals
    go_wp2
    go_ret
    refine ⟨rfl, ?_⟩
    repeat' (first
      | (with_reducible exact Below.refl _ _)
      | (with_reducible assumption)
      | (with_reducible refine Below.alloc ?_ ?_ _)
      | (with_reducible refine Below.drew ?_)
      | (with_reducible refine bdrewN ?_ _)
      | (with_reducible refine Below.setCell ?_ ?_ _)
      | (with_reducible refine bthen (by assumption) ?_ ?_)
      | go_size)
end Go.Proofs.Ytmkfkpfblnblgaa
