/- The laws' own helpers: b10Long, b10Has, b10Rises. -/
import Derived.Test.YteddchnmjppdeaaD5
import Derived.Test.YteddchnmjppdeaaF
namespace Go.Proofs.Yteddchnmjppdeaa
open Go.ChangeShapes Go.WideShapes Go.ChangeAt Go.RowKit
set_option linter.unusedVariables false
set_option linter.unusedSimpArgs false

theorem b10Long_c (A : Option Addr) (n c : Nat) (w : World) : Calls Try.prog 15 #[.slice A n c] w fun e w' => e = .returned (.bool (decide ((1048576 : Int) < n))) ∧ w = w' := by
  go_enter Try.func15, Try.ntmps15
  go_wp2
  go_ret
  simp
theorem b10Has_c (A : Option Addr) (c : Nat) (xs : List Int) (x : Int) (hn : xs.length ≤ 1048576) (w : World) (hr : RowI w A xs) : Calls Try.prog 25 #[.slice A xs.length c, .int .i64 x] w fun e w' => e = .returned (.bool (xs.any (fun y => decide (y = x)))) ∧ w = w' := by
  go_enter Try.func25, Try.ntmps25
  go_wp2
  go_loop [5] (fun v => ∃ k : Nat, k ≤ xs.length ∧ v = .int .i64 k ∧ Hid (∀ j, j < k → (decide (nth xs j = x)) = false)) (fun v => xs.length - (intOf v).toNat)
  case atStart => exact ⟨0, by omega, rfl, Lib.hid (fun j hj => by omega)⟩
  case round =>
    obtain ⟨k, hk, rfl, HK⟩ := hrel
    by_cases hlt : k < xs.length
    · obtain ⟨b, off, rfl, hb, hc⟩ := hr.at_ hlt
      have i1 : (k : Int) < xs.length := by omega
      by_cases hx : nth xs k = x
      · have HA := Lib.hid (any_of (p := fun y => decide (y = x)) hlt (by simp [hx]))
        have hx' : (nth xs k == x) = true := by simp [hx]
        go_wp2
        go_ret
        exact ⟨by rw [HA.out]; simp, rfl⟩
      · have HN := Lib.hid (show ∀ j, j < k + 1 → (decide (nth xs j = x)) = false from fun j hj => by
          rcases Nat.lt_or_ge j k with h1 | h1
          · exact HK.out j h1
          · obtain rfl : j = k := by omega
            simp [hx])
        have hx' : (nth xs k == x) = false := by simp [hx]
        go_wp2
        go_round
        case rel => exact ⟨k + 1, by omega, by go_num, HN⟩
        case measure => simp [intOf]; omega
    · obtain rfl : k = xs.length := by omega
      have HA := Lib.hid (any_none (p := fun y => decide (y = x)) HK.out)
      go_wp2
      go_ret
      exact ⟨by rw [HA.out]; simp, rfl⟩
set_option maxRecDepth 100000 in
set_option maxHeartbeats 2000000 in
theorem b10Rises_c (A : Option Addr) (c : Nat) (xs : List Int) (n : Int) (hn : xs.length ≤ 1048576) (h0 : ∀ k, k < xs.length → 0 ≤ nth xs k ∧ nth xs k < n) (h1 : ∀ k, k + 1 < xs.length → nth xs k < nth xs (k + 1)) (w : World) (hr : RowI w A xs) : Calls Try.prog 24 #[.slice A xs.length c, .int .i64 n] w fun e w' => e = .returned (.bool true) ∧ ∃ q, w' = w.drewN q := by
  have H0 := Lib.hid h0
  have H1 := Lib.hid h1
  clear h0 h1
  go_enter Try.func24, Try.ntmps24
  go_wp2
  go_loopw [5] (fun v wr => ∃ k : Nat, k ≤ xs.length ∧ v = .int .i64 k ∧ ∃ q, wr = w.drewN q) (fun v _ => xs.length - (intOf v).toNat)
  case atStart => exact ⟨0, by omega, rfl, 0, rfl⟩
  case round =>
    obtain ⟨k, hk, rfl, q, rfl⟩ := hrel
    by_cases hlt : k < xs.length
    · obtain ⟨b, off, rfl, hb, hc⟩ := hr.at_ hlt
      obtain ⟨x0, x1⟩ := H0.out k hlt
      have i1 : (k : Int) < xs.length := by omega
      have b0 : decide (nth xs k < 0) = false := by simp; omega
      have b1 : decide (n ≤ nth xs k) = false := by simp; omega
      rcases k with _ | j
      · have c0 : w.cell? ⟨b, off, none⟩ = some (.int .i64 (nth xs 0)) := hc
        have b2 : decide ((0 : Int) < 0) = false := by simp
        go_wp2
        go_quiet (fail)
        go_wp2
        go_roundw
        case rel => exact ⟨0 + 1, by omega, by go_num, _, rfl⟩
        case measure => simp [intOf] <;> omega
      · obtain ⟨b', off', e, hb', hc'⟩ := hr.at_ (show j < xs.length by omega)
        simp only [Option.some.injEq, Addr.mk.injEq, and_true] at e
        obtain ⟨rfl, rfl⟩ := e
        have hlt2 := H1.out j hlt
        have b2 : decide ((0 : Int) < (j : Int) + 1) = true := by first | (simp; done) | (simp; omega)
        have b3 : decide (nth xs (j + 1) ≤ nth xs j) = false := by simp; omega
        have i2 : (j : Int) < xs.length := by omega
        have i3 : (j : Int) + 1 < xs.length := by omega
        have i4 : (j : Int) + 1 - 1 = j := by omega
        have c1 : w.cell? ⟨b, off + j + 1, none⟩ = some (.int .i64 (nth xs (j + 1))) := by rw [Nat.add_assoc]; exact hc
        go_wp2
        go_quiet (fail)
        go_wp2
        go_roundw
        case rel => exact ⟨j + 1 + 1, by omega, by go_num, _, rfl⟩
        case measure => simp [intOf] <;> omega
    · obtain rfl : k = xs.length := by omega
      go_wp2
      go_returns
      exact ⟨by simp, _, rfl⟩
end Go.Proofs.Yteddchnmjppdeaa
