/- The laws' own helpers: b10Long, b10Has, b10Rises. -/
import Derived.Test.YtapafambhidlhaaDoorD5
import Derived.Test.YtapafambhidlhaaDoorF
namespace Go.Proofs.YtapafambhidlhaaDoor
open Go.ChangeShapes Go.WideShapes Go.ChangeAt Go.RowKit
set_option linter.unusedVariables false
set_option linter.unusedSimpArgs false

theorem b10Long_c (A : Option Addr) (n c : Nat) (w : World) : Calls Tryd.prog 4 #[.slice A n c] w fun e w' => e = .returned (.bool (decide ((1048576 : Int) < n))) ∧ w = w' := by
  go_enter Tryd.func4, Tryd.ntmps4
  go_wp2
  go_ret
  simp
theorem b10Has_c (A : Option Addr) (c : Nat) (xs : List Int) (x : Int) (hn : xs.length ≤ 1048576) (w : World) (hr : RowI w A xs) : Calls Tryd.prog 11 #[.slice A xs.length c, .int .i64 x] w fun e w' => e = .returned (.bool (xs.any (fun y => decide (y = x)))) ∧ w = w' := by
  go_enter Tryd.func11, Tryd.ntmps11
  go_wp2
  go_loop [5] (fun v => ∃ k : Nat, k ≤ xs.length ∧ v = .int .i64 k ∧ Hid (∀ j, j < k → (decide (nth xs j = x)) = false)) (fun v => xs.length - (intOf v).toNat)
  case atStart => exact ⟨0, by omega, rfl, Lib.hid (fun j hj => by omega)⟩
  case round =>
    obtain ⟨k, hk, rfl, HK⟩ := hrel
    by_cases hlt : k < xs.length
    · obtain ⟨b, off, rfl, hb, hc⟩ := hr.at_ hlt
      have i1 : (k : Int) < xs.length := by omega
      by_cases hx : nth xs k = x
      · have HA := Lib.hid (any_of (p := fun y => decide (y = x)) hlt (by simp [hx]))
        have hx' : (nth xs k == x) = true := by simp [hx]
        go_wp2
        go_ret
        exact ⟨by rw [HA.out]; simp, rfl⟩
      · have HN := Lib.hid (show ∀ j, j < k + 1 → (decide (nth xs j = x)) = false from fun j hj => by
          rcases Nat.lt_or_ge j k with h1 | h1
          · exact HK.out j h1
          · obtain rfl : j = k := by omega
            simp [hx])
        have hx' : (nth xs k == x) = false := by simp [hx]
        go_wp2
        go_round
        case rel => exact ⟨k + 1, by omega, by go_num, HN⟩
        case measure => simp [intOf]; omega
    · obtain rfl : k = xs.length := by omega
      have HA := Lib.hid (any_none (p := fun y => decide (y = x)) HK.out)
      go_wp2
      go_ret
      exact ⟨by rw [HA.out]; simp, rfl⟩
end Go.Proofs.YtapafambhidlhaaDoor
