/- slices.ContainsFunc over numbers, and the checks of lists that use it. -/
import Derived.Test.YthemojobalcopaaGreatDoorS
namespace Go.Proofs.YthemojobalcopaaGreatDoor
open Go.ChangeShapes Go.WideShapes Go.ChangeAt Go.RowKit
set_option linter.unusedVariables false
set_option linter.unusedSimpArgs false

theorem any_of {p : Int → Bool} {xs : List Int} {k : Nat} (hk : k < xs.length) (h : p (nth xs k) = true) : xs.any p = true := List.any_eq_true.2 ⟨_, nth_mem hk, h⟩
theorem any_none {p : Int → Bool} {xs : List Int} (h : ∀ j, j < xs.length → p (nth xs j) = false) : xs.any p = false := by
  rw [List.any_eq_false]
  intro x hx
  obtain ⟨j, hj, rfl⟩ := List.mem_iff_getElem.1 hx
  have := h j hj
  simp only [nth, List.getD_eq_getElem?_getD, List.getElem?_eq_getElem hj, Option.getD_some] at this
  simp [this]
/-- What slices.IndexFunc hands back: a number that is negative just where nothing was found. -/
def IdxPost (b : Bool) (w : World) (e : Ending) (w' : World) : Prop := ∃ r : Int, e = .returned (.int .i64 r) ∧ decide (0 ≤ r) = b ∧ w = w'

def notSh (n : Int) : Bool := !inB n 100 10000
/-- Are they sheaves? -/
def shB (xs : List Int) : Bool := decide ((xs.length : Int) ≤ 12) && !xs.any notSh
theorem shB_true {xs : List Int} (h : shB xs = true) : xs.length ≤ 12 ∧ ∀ x ∈ xs, 100 ≤ x ∧ x ≤ 10000 := by
  simp only [shB, Bool.and_eq_true, decide_eq_true_eq, Bool.not_eq_true', List.any_eq_false] at h
  refine ⟨by omega, fun x hx => inB_true ?_⟩
  have := h.2 x hx
  simpa [notSh] using this
theorem areSheaves1_c (n : Int) (w : World) : Calls Tryz.prog 41 #[.int .i64 n] w fun e w' => e = .returned (.bool (notSh n)) ∧ w = w' := by
  go_enter Tryz.func41, Tryz.ntmps41
  go_wp2_with
    (first
      | (go_at_call 24; go_call (within_c _ _ _ _); rintro e w' ⟨rfl, rfl⟩))
  all_goals (go_ret; simp [notSh])
theorem indexFuncSh_c (A : Option Addr) (c : Nat) (xs : List Int) (hn : xs.length ≤ 1048576) (w : World) (hr : RowI w A xs) : Calls Tryz.prog 49 #[.slice A xs.length c, .func (.func 41) #[] #[]] w (IdxPost (xs.any notSh) w) := by
  go_enter Tryz.func49, Tryz.ntmps49
  go_wp2
  go_loop [8] (fun v => ∃ k : Nat, k ≤ xs.length ∧ v = .int .i64 k ∧ Hid (∀ j, j < k → notSh (nth xs j) = false)) (fun v => xs.length - (intOf v).toNat)
  case atStart => exact ⟨0, by omega, rfl, Lib.hid (fun j hj => by omega)⟩
  case round =>
    obtain ⟨k, hk, rfl, HK⟩ := hrel
    by_cases hlt : k < xs.length
    · obtain ⟨b, off, rfl, hb, hc⟩ := hr.at_ hlt
      cases hp : notSh (nth xs k)
      · have HN := Lib.hid (show ∀ j, j < k + 1 → notSh (nth xs j) = false from fun j hj => by
          rcases Nat.lt_or_ge j k with h1 | h1
          · exact HK.out j h1
          · obtain rfl : j = k := by omega
            exact hp)
        go_wp2_with (go_at_call 41; go_call (areSheaves1_c _ _); rintro e w' ⟨rfl, rfl⟩)
        go_round
        case rel => exact ⟨k + 1, by omega, by go_num, HN⟩
        case measure => simp [intOf]; omega
      · have HA := Lib.hid (any_of hlt hp)
        go_wp2_with (go_at_call 41; go_call (areSheaves1_c _ _); rintro e w' ⟨rfl, rfl⟩)
        go_ret
        exact ⟨k, rfl, by rw [HA.out]; simp, rfl⟩
    · obtain rfl : k = xs.length := by omega
      have HA := Lib.hid (any_none HK.out)
      go_wp2
      go_ret
      exact ⟨-1, rfl, by rw [HA.out]; simp, rfl⟩
theorem containsFuncSh_c (A : Option Addr) (c : Nat) (xs : List Int) (hn : xs.length ≤ 1048576) (w : World) (hr : RowI w A xs) : Calls Tryz.prog 40 #[.slice A xs.length c, .func (.func 41) #[] #[]] w fun e w' => e = .returned (.bool (xs.any notSh)) ∧ w = w' := by
  have HC := Lib.hid (indexFuncSh_c A c xs hn w hr)
  generalize xs.any notSh = b at *
  go_enter Tryz.func40, Tryz.ntmps40
  go_wp2_with (go_at_call 49; (refine HC.out.mono ?_); rintro e w' ⟨r, rfl, hr, rfl⟩)
  go_ret
  exact ⟨by simp [hr], rfl⟩
theorem areSheaves_c (A : Option Addr) (c : Nat) (xs : List Int) (hn : xs.length ≤ 1048576) (w : World) (hr : RowI w A xs) : Calls Tryz.prog 29 #[.slice A xs.length c] w fun e w' => e = .returned (.bool (shB xs)) ∧ w = w' := by
  have HC := Lib.hid (containsFuncSh_c A c xs hn w hr)
  have hs : shB xs = (decide ((xs.length : Int) ≤ 12) && !xs.any notSh) := rfl
  rw [hs]
  clear hs
  generalize xs.any notSh = b at *
  by_cases h : (xs.length : Int) ≤ 12
  all_goals
    go_enter Tryz.func29, Tryz.ntmps29
    go_wp2_with (go_at_call 40; (refine HC.out.mono ?_); rintro e w' ⟨rfl, rfl⟩)
    go_ret
    simp [h] <;> omega
end Go.Proofs.YthemojobalcopaaGreatDoor
