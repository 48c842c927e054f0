/- The comparison of slices.SortStableFunc in CheapestHours: prices of hours. -/
import Derived.Test.YtbdhelekmdpbiaaCS
namespace Go.Proofs.Ytbdhelekmdpbiaa
open Go.ChangeShapes Go.WideShapes Go.ChangeAt Go.RowKit
set_option linter.unusedVariables false
set_option linter.unusedSimpArgs false

theorem isNaN_c (a : Int) (w : World) : Calls Try.prog 23 #[.int .i64 a] w fun e w' => e = .returned (.bool false) ∧ w = w' := by
  go_enter Try.func23, Try.ntmps23
  go_wp2
  go_ret
  simp
/-- What a comparison of two numbers gives. -/
def cmpV (a b : Int) : Int := if a < b then -1 else if b < a then 1 else 0
theorem cmpV_lt {a b : Int} (h : a < b) : cmpV a b = -1 := by rw [cmpV, if_pos h]
theorem cmpV_ge {a b : Int} (h : ¬ a < b) : ¬ cmpV a b < 0 := by
  rw [cmpV, if_neg h]
  split <;> omega
theorem compare_c (a b : Int) (w : World) : Calls Try.prog 20 #[.int .i64 a, .int .i64 b] w fun e w' => e = .returned (.int .i64 (cmpV a b)) ∧ w = w' := by
  rcases Int.lt_trichotomy a b with h | h | h
  · have hv := Lib.hid (show cmpV a b = -1 from cmpV_lt h)
    go_enter Try.func20, Try.ntmps20
    go_wp2_with
      (first
        | (go_at_call 23; go_call (isNaN_c _ _); rintro e w' ⟨rfl, rfl⟩))
    go_returns
    exact ⟨by rw [hv.out]; simp, rfl⟩
  · have h1 : ¬ a < b := by omega
    have h2 : ¬ b < a := by omega
    have hv := Lib.hid (show cmpV a b = 0 by rw [cmpV, if_neg h1, if_neg h2])
    go_enter Try.func20, Try.ntmps20
    go_wp2_with
      (first
        | (go_at_call 23; go_call (isNaN_c _ _); rintro e w' ⟨rfl, rfl⟩))
    go_returns
    exact ⟨by rw [hv.out]; simp, rfl⟩
  · have h1 : ¬ a < b := by omega
    have hv := Lib.hid (show cmpV a b = 1 by rw [cmpV, if_neg h1, if_pos h])
    go_enter Try.func20, Try.ntmps20
    go_wp2_with
      (first
        | (go_at_call 23; go_call (isNaN_c _ _); rintro e w' ⟨rfl, rfl⟩))
    go_returns
    exact ⟨by rw [hv.out]; simp, rfl⟩
/-- The prices that the comparison has captured: a variable below B that holds a slice below B. -/
def PC (w : World) (B d : Nat) (ps : List Int) : Prop := ∃ A c, w.cell? ⟨d, 0, none⟩ = some (.slice A ps.length c) ∧ d < B ∧ RowI w A ps ∧ (∀ g o, A = some ⟨g, o, none⟩ → g < B) ∧ ps.length ≤ 1000
theorem PC.below {w w' : World} {B d : Nat} {ps : List Int} (h : PC w B d ps) (hb : Below B w w') : PC w' B d ps := by
  obtain ⟨A, c, h1, h2, h3, h4, h5⟩ := h
  refine ⟨A, c, (hb.cell (p := ⟨d, 0, none⟩) h2).trans h1, h2, fun hn => ?_, h4, h5⟩
  obtain ⟨b, off, e, hlt, hc⟩ := h3 hn
  have hbB := h4 b off e
  exact ⟨b, off, e, Nat.lt_of_lt_of_le hlt hb.size, fun i hi => (hb.cell (p := ⟨b, off + i, none⟩) hbB).trans (hc i hi)⟩
set_option maxHeartbeats 2000000 in
theorem cmp2_c (x y : Nat) (B d : Nat) (ps : List Int) (hx : x < ps.length) (hy : y < ps.length) (w : World) (h : PC w B d ps) : Calls Try.prog 19 #[.int .i64 x, .int .i64 y, .pointer (some ⟨d, 0, none⟩)] w fun e w' => e = .returned (.int .i64 (cmpV (nth ps x) (nth ps y))) ∧ ∃ q, w' = w.drewN q := by
  obtain ⟨A, c, h1, h2, h3, h4, h5⟩ := h
  obtain ⟨b, off, rfl, hb, cx⟩ := h3.at_ hx
  obtain ⟨b', off', e1, _, cy⟩ := h3.at_ hy
  simp only [Option.some.injEq, Addr.mk.injEq, and_true] at e1
  obtain ⟨rfl, rfl⟩ := e1
  have x1 : (x : Int) < ps.length := by omega
  have y1 : (y : Int) < ps.length := by omega
  clear h3 h4
  generalize hvx : nth ps x = vx at *
  generalize hvy : nth ps y = vy at *
  go_enter Try.func19, Try.ntmps19
  go_wp2
  go_quiet ((first
      | (go_at_call 20; exact quiet_left (compare_c _ _ _))
      | (go_at_call 20; exact quiet_add_left (compare_c _ _ _))))
  go_wp2
  go_returns
  exact ⟨by first | rfl | (simp; done) | (simp; rfl), by first | exact ⟨_, rfl⟩ | exact ⟨nq, rfl⟩⟩
end Go.Proofs.Ytbdhelekmdpbiaa
