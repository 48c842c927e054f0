/- Contracts of the functions on profiles: validity. -/
import Derived.Test.YtmmabkmcgffnpaaB
namespace Go.Proofs.Ytmmabkmcgffnpaa
open Go.ChangeShapes Go.WideShapes Go.ChangeAt Go.RowKit
set_option linter.unusedVariables false
set_option linter.unusedSimpArgs false

def profOk (a c r w : Int) : Bool := inB a 1 2000 && inB c 100 15000 && inB r 100 c && inB w 0 3000000
theorem profOk_true {a c r w : Int} (h : profOk a c r w = true) : (1 ≤ a ∧ a ≤ 2000) ∧ (100 ≤ c ∧ c ≤ 15000) ∧ (100 ≤ r ∧ r ≤ c) ∧ (0 ≤ w ∧ w ≤ 3000000) := by
  simp only [profOk, Bool.and_eq_true] at h
  obtain ⟨⟨⟨h0, h1⟩, h2⟩, h3⟩ := h
  exact ⟨inB_true h0, inB_true h1, inB_true h2, inB_true h3⟩
theorem isWay_c (n : Int) (w : World) : Calls Try.prog 35 #[.int .i64 n] w fun e w' => e = .returned (.bool (inB n 0 3000000)) ∧ w = w' := by
  go_enter Try.func35, Try.ntmps35
  go_wp2_with
    (first
      | (go_at_call 43; go_call (within_c _ _ _ _); rintro e w' ⟨rfl, rfl⟩))
  all_goals (go_ret; simp [*])
theorem l09Way_c (n : Int) (w : World) : Calls Try.prog 31 #[.int .i64 n] w fun e w' => e = .returned (.bool (inB n 0 3000000)) ∧ w = w' := by
  go_enter Try.func31, Try.ntmps31
  go_wp2_with
    (first
      | (go_at_call 30; go_call (l00In_c _ _ _ _); rintro e w' ⟨rfl, rfl⟩))
  all_goals (go_ret; simp [*])
theorem isSpeed_c (n : Int) (w : World) : Calls Try.prog 34 #[.int .i64 n] w fun e w' => e = .returned (.bool (inB n 0 15000)) ∧ w = w' := by
  go_enter Try.func34, Try.ntmps34
  go_wp2_with
    (first
      | (go_at_call 43; go_call (within_c _ _ _ _); rintro e w' ⟨rfl, rfl⟩))
  all_goals (go_ret; simp [*])
theorem toProfile_c (a c r y : Int) (w : World) : Calls Try.prog 12 #[.agg #[.int .i64 a, .int .i64 c, .int .i64 r, .int .i64 y]] w fun e w' => e = .returned (.agg #[.int .i64 a, .int .i64 c, .int .i64 r, .int .i64 y]) ∧ Below w.heap.size w w' := by
  go_enter Try.func12, Try.ntmps12
  go_wp2
  go_returns
  refine ⟨rfl, ?_⟩
  go_grown
set_option maxHeartbeats 1000000 in
theorem l09Ok_c (a c r y : Int) (p : Nat) (w : World) (h0 : w.cell? ⟨p, 0, none⟩ = some (.int .i64 a)) (h1 : w.cell? ⟨p, 1, none⟩ = some (.int .i64 c)) (h2 : w.cell? ⟨p, 2, none⟩ = some (.int .i64 r)) (h3 : w.cell? ⟨p, 3, none⟩ = some (.int .i64 y)) : Calls Try.prog 29 #[.pointer (some ⟨p, 0, none⟩)] w fun e w' => e = .returned (.bool (profOk a c r y)) ∧ ∃ n, w' = w.drewN n := by
  have hP : profOk a c r y = (inB a 1 2000 && inB c 100 15000 && inB r 100 c && inB y 0 3000000) := rfl
  rw [hP]
  clear hP
  cases k1 : inB a 1 2000
  rotate_left
  cases k2 : inB c 100 15000
  rotate_left
  cases k3 : inB r 100 c
  rotate_left
  cases k4 : inB y 0 3000000
  all_goals
    go_enter Try.func29, Try.ntmps29
    go_wp2
    go_quiet ((first
        | (go_at_call 30; (first | with_reducible exact quiet_left (l00In_v k1 _) | with_reducible exact quiet_left (l00In_v k2 _) | with_reducible exact quiet_left (l00In_v k3 _) | with_reducible exact quiet_left (l00In_v k4 _)))))
    go_wp2
    go_ret
    exact ⟨by simp, _, rfl⟩
theorem implValidProfile_c (a c r y : Int) (w : World) : Calls Try.prog 54 #[.agg #[.int .i64 a, .int .i64 c, .int .i64 r, .int .i64 y]] w fun e w' => e = .returned (.bool (profOk a c r y)) ∧ Below w.heap.size w w' := by
  unfold profOk
  go_enter Try.func54, Try.ntmps54
  go_wp2_with
    (first
      | (go_at_call 43; go_call (within_c _ _ _ _); rintro e w' ⟨rfl, rfl⟩)
      | (go_at_call 35; go_call (isWay_c _ _); rintro e w' ⟨rfl, rfl⟩))
  all_goals (go_returns; refine ⟨by simp [*], ?_⟩; go_grown)
end Go.Proofs.Ytmmabkmcgffnpaa
