/- Contracts of the functions on profiles: validity. -/
import Derived.Test.YtcddihgdidlbkaaB
namespace Go.Proofs.Ytcddihgdidlbkaa
open Go.ChangeShapes Go.WideShapes Go.ChangeAt Go.RowKit
set_option linter.unusedVariables false
set_option linter.unusedSimpArgs false

def profOk (a c r w : Int) : Bool := inB a 1 2000 && inB c 100 15000 && inB r 100 c && inB w 0 3000000
theorem profOk_true {a c r w : Int} (h : profOk a c r w = true) : (1 ≤ a ∧ a ≤ 2000) ∧ (100 ≤ c ∧ c ≤ 15000) ∧ (100 ≤ r ∧ r ≤ c) ∧ (0 ≤ w ∧ w ≤ 3000000) := by
  simp only [profOk, Bool.and_eq_true] at h
  obtain ⟨⟨⟨h0, h1⟩, h2⟩, h3⟩ := h
  exact ⟨inB_true h0, inB_true h1, inB_true h2, inB_true h3⟩
theorem isWay_c (n : Int) (w : World) : Calls Try.prog 50 #[.int .i64 n] w fun e w' => e = .returned (.bool (inB n 0 3000000)) ∧ w = w' := by
  go_enter Try.func50, Try.ntmps50
  go_wp2_with
    (first
      | (go_at_call 47; go_call (within_c _ _ _ _); rintro e w' ⟨rfl, rfl⟩))
  all_goals (go_ret; simp [*])
theorem toProfile_c (a c r y : Int) (w : World) : Calls Try.prog 24 #[.agg #[.int .i64 a, .int .i64 c, .int .i64 r, .int .i64 y]] w fun e w' => e = .returned (.agg #[.int .i64 a, .int .i64 c, .int .i64 r, .int .i64 y]) ∧ Below w.heap.size w w' := by
  go_enter Try.func24, Try.ntmps24
  go_wp2
  go_returns
  refine ⟨rfl, ?_⟩
  go_grown
set_option maxHeartbeats 1000000 in
theorem l09Ok_c (a c r y : Int) (p : Nat) (w : World) (h0 : w.cell? ⟨p, 0, none⟩ = some (.int .i64 a)) (h1 : w.cell? ⟨p, 1, none⟩ = some (.int .i64 c)) (h2 : w.cell? ⟨p, 2, none⟩ = some (.int .i64 r)) (h3 : w.cell? ⟨p, 3, none⟩ = some (.int .i64 y)) : Calls Try.prog 49 #[.pointer (some ⟨p, 0, none⟩)] w fun e w' => e = .returned (.bool (profOk a c r y)) ∧ ∃ n, w' = w.drewN n := by
  have hP : profOk a c r y = (inB a 1 2000 && inB c 100 15000 && inB r 100 c && inB y 0 3000000) := rfl
  rw [hP]
  clear hP
  cases k1 : inB a 1 2000
  rotate_left
  cases k2 : inB c 100 15000
  rotate_left
  cases k3 : inB r 100 c
  rotate_left
  cases k4 : inB y 0 3000000
  all_goals
    go_enter Try.func49, Try.ntmps49
    go_wp2
    go_quiet ((first
        | (go_at_call 44; (first | with_reducible exact quiet_left (l00In_v k1 _) | with_reducible exact quiet_left (l00In_v k2 _) | with_reducible exact quiet_left (l00In_v k3 _) | with_reducible exact quiet_left (l00In_v k4 _)))))
    go_wp2
    go_ret
    exact ⟨by simp, _, rfl⟩
theorem implValidProfile_c (a c r y : Int) (w : World) : Calls Try.prog 25 #[.agg #[.int .i64 a, .int .i64 c, .int .i64 r, .int .i64 y]] w fun e w' => e = .returned (.bool (profOk a c r y)) ∧ Below w.heap.size w w' := by
  unfold profOk
  go_enter Try.func25, Try.ntmps25
  go_wp2_with
    (first
      | (go_at_call 47; go_call (within_c _ _ _ _); rintro e w' ⟨rfl, rfl⟩)
      | (go_at_call 50; go_call (isWay_c _ _); rintro e w' ⟨rfl, rfl⟩))
  all_goals (go_returns; refine ⟨by simp [*], ?_⟩; go_grown)
theorem specValidProfile_c (a c r y : Int) (w : World) : Calls Try.prog 23 #[.agg #[.int .i64 a, .int .i64 c, .int .i64 r, .int .i64 y]] w fun e w' => e = .returned (.bool (profOk a c r y)) ∧ Below w.heap.size w w' := by
  go_enter Try.func23, Try.ntmps23
  go_wp2_with
    (first
      | (go_at_call 49; go_call (l09Ok_c a c r y); rintro e w' ⟨rfl, nq, rfl⟩))
  go_returns
  refine ⟨rfl, ?_⟩
  repeat' (first
    | (with_reducible exact Below.refl _ _)
    | (with_reducible assumption)
    | (with_reducible refine Below.alloc ?_ ?_ _)
    | (with_reducible refine Below.drew ?_)
    | (with_reducible refine bdrewN ?_ _)
    | (with_reducible refine Below.setCell ?_ ?_ _)
    | (with_reducible refine bthen (by assumption) ?_ ?_)
    | go_size)
theorem walk_FnExactValidProfile (a c r y : Int) (w : World) (_ : I64 a) (_ : I64 c) (_ : I64 r) (_ : I64 y) : Calls Try.prog 6 #[.agg #[.int .i64 a, .int .i64 c, .int .i64 r, .int .i64 y]] w fun e w' => e = .returned (.bool true) ∧ Below w.heap.size w w' := by
  go_enter Try.func6, Try.ntmps6
  go_wp2_with
    (first
      | (go_at_call 24; go_call (toProfile_c _ _ _ _ _); rintro e w' ⟨rfl, hb⟩; obtain ⟨hc, hf, hz, hs⟩ := bfacts hb; (try simp only [World.size_alloc, World.size_setCell, World.size_drew, World.heap_drewN] at hs); have za : w.heap.size < w'.heap.size := (by omega); have pa0 : w'.cell? ⟨w.heap.size, 0, none⟩ = some (.int .i64 a) := (by rw [hc _ _ (by first | assumption | (simp; done) | (simp; omega))]; first | assumption | (simp; done) | (simp [*]; done) | (simp [*, go_sem]; done)); have pa1 : w'.cell? ⟨w.heap.size, 1, none⟩ = some (.int .i64 c) := (by rw [hc _ _ (by first | assumption | (simp; done) | (simp; omega))]; first | assumption | (simp; done) | (simp [*]; done) | (simp [*, go_sem]; done)); have pa2 : w'.cell? ⟨w.heap.size, 2, none⟩ = some (.int .i64 r) := (by rw [hc _ _ (by first | assumption | (simp; done) | (simp; omega))]; first | assumption | (simp; done) | (simp [*]; done) | (simp [*, go_sem]; done)); have pa3 : w'.cell? ⟨w.heap.size, 3, none⟩ = some (.int .i64 y) := (by rw [hc _ _ (by first | assumption | (simp; done) | (simp; omega))]; first | assumption | (simp; done) | (simp [*]; done) | (simp [*, go_sem]; done)))
      | (go_at_call 23; go_call (specValidProfile_c _ _ _ _ _); rintro e w' ⟨rfl, hb⟩; obtain ⟨hc, hf, hz, hs⟩ := bfacts hb; (try simp only [World.size_alloc, World.size_setCell, World.size_drew, World.heap_drewN] at hs); have za : w.heap.size < w'.heap.size := (by omega); have pa0 : w'.cell? ⟨w.heap.size, 0, none⟩ = some (.int .i64 a) := (by rw [hc _ _ (by first | assumption | (simp; done) | (simp; omega))]; first | assumption | (simp; done) | (simp [*]; done) | (simp [*, go_sem]; done)); have pa1 : w'.cell? ⟨w.heap.size, 1, none⟩ = some (.int .i64 c) := (by rw [hc _ _ (by first | assumption | (simp; done) | (simp; omega))]; first | assumption | (simp; done) | (simp [*]; done) | (simp [*, go_sem]; done)); have pa2 : w'.cell? ⟨w.heap.size, 2, none⟩ = some (.int .i64 r) := (by rw [hc _ _ (by first | assumption | (simp; done) | (simp; omega))]; first | assumption | (simp; done) | (simp [*]; done) | (simp [*, go_sem]; done)); have pa3 : w'.cell? ⟨w.heap.size, 3, none⟩ = some (.int .i64 y) := (by rw [hc _ _ (by first | assumption | (simp; done) | (simp; omega))]; first | assumption | (simp; done) | (simp [*]; done) | (simp [*, go_sem]; done)))
      | (go_at_call 25; go_call (implValidProfile_c _ _ _ _ _); rintro e w' ⟨rfl, hb⟩; obtain ⟨hc, hf, hz, hs⟩ := bfacts hb; (try simp only [World.size_alloc, World.size_setCell, World.size_drew, World.heap_drewN] at hs); have za : w.heap.size < w'.heap.size := (by omega); have pa0 : w'.cell? ⟨w.heap.size, 0, none⟩ = some (.int .i64 a) := (by rw [hc _ _ (by first | assumption | (simp; done) | (simp; omega))]; first | assumption | (simp; done) | (simp [*]; done) | (simp [*, go_sem]; done)); have pa1 : w'.cell? ⟨w.heap.size, 1, none⟩ = some (.int .i64 c) := (by rw [hc _ _ (by first | assumption | (simp; done) | (simp; omega))]; first | assumption | (simp; done) | (simp [*]; done) | (simp [*, go_sem]; done)); have pa2 : w'.cell? ⟨w.heap.size, 2, none⟩ = some (.int .i64 r) := (by rw [hc _ _ (by first | assumption | (simp; done) | (simp; omega))]; first | assumption | (simp; done) | (simp [*]; done) | (simp [*, go_sem]; done)); have pa3 : w'.cell? ⟨w.heap.size, 3, none⟩ = some (.int .i64 y) := (by rw [hc _ _ (by first | assumption | (simp; done) | (simp; omega))]; first | assumption | (simp; done) | (simp [*]; done) | (simp [*, go_sem]; done))))
  go_returns
  refine ⟨by simp, ?_⟩
  repeat' (first
    | (with_reducible exact Below.refl _ _)
    | (with_reducible assumption)
    | (with_reducible refine Below.alloc ?_ ?_ _)
    | (with_reducible refine Below.drew ?_)
    | (with_reducible refine bdrewN ?_ _)
    | (with_reducible refine Below.setCell ?_ ?_ _)
    | (with_reducible refine bthen (by assumption) ?_ ?_)
    | go_size)
end Go.Proofs.Ytcddihgdidlbkaa
