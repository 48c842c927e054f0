/- IdleLimits. -/
import Derived.Test.YteddchnmjppdeaaK3
import Derived.BigQuiet
namespace Go.Proofs.Yteddchnmjppdeaa
open Go.ChangeShapes Go.WideShapes Go.ChangeAt Go.RowKit
set_option linter.unusedVariables false
set_option linter.unusedSimpArgs false

/-- Does the first limit make the second one useless? -/
def betI (a b c a' b' c' : Int) (p : Bool) : Bool := decide (a = a') && decide (b ≤ b') && (decide (c < c') || (decide (c = c') && (decide (b < b') || p)))
def betAt (z : List Int) (i k : Nat) : Bool := !decide (k = i) && betI (tA z k) (tB z k) (tC z k) (tA z i) (tB z i) (tC z i) (decide (k < i))
def idleB (z : List Int) (n i : Nat) : Bool := anyN (betAt z i) n
def idleTo (z : List Int) (n : Nat) : Nat → List Int
  | 0 => []
  | k + 1 => if idleB z n k then idleTo z n k ++ [(k : Int)] else idleTo z n k
theorem idleTo_in {z : List Int} {n k : Nat} (h : idleB z n k = true) : idleTo z n (k + 1) = idleTo z n k ++ [(k : Int)] := by rw [idleTo, if_pos h]
theorem idleTo_out {z : List Int} {n k : Nat} (h : idleB z n k = false) : idleTo z n (k + 1) = idleTo z n k := by rw [idleTo, if_neg (by simp [h])]
theorem idleTo_len (z : List Int) (n : Nat) : ∀ k, (idleTo z n k).length ≤ k
  | 0 => by simp [idleTo]
  | k + 1 => by
    have := idleTo_len z n k
    simp only [idleTo]
    split <;> simp <;> omega
def fIdle (z : List Int) (n : Nat) : List Int × Int := if limsB z n then (idleTo z n n, 0) else ([], 1)
theorem isBetter_c (a b c a' b' c' : Int) (p : Bool) (w : World) : Calls Try.prog 52 #[.agg #[.int .i64 a, .int .i64 b, .int .i64 c], .agg #[.int .i64 a', .int .i64 b', .int .i64 c'], .bool p] w fun e w' => e = .returned (.bool (betI a b c a' b' c' p)) ∧ Below w.heap.size w w' := by
  by_cases h1 : a = a'
  · subst h1
    rcases Int.lt_or_le b' b with h2 | h2
    · have h2' : ¬ b ≤ b' := by omega
      have HR := Lib.hid (show betI a b c a b' c' p = false by simp [betI, *]; try omega)
      go_enter Try.func52, Try.ntmps52
      go_wp2
      go_returns
      refine ⟨by rw [HR.out]; simp, ?_⟩
      repeat' (first
        | (with_reducible exact Below.refl _ _)
        | (with_reducible assumption)
        | (with_reducible refine Below.alloc ?_ ?_ _)
        | (with_reducible refine Below.drew ?_)
        | (with_reducible refine bdrewN ?_ _)
        | (with_reducible refine Below.setCell ?_ ?_ _)
        | (with_reducible refine bthen (by assumption) ?_ ?_)
        | go_size)
    · have h2' : ¬ b' < b := by omega
      rcases Int.lt_trichotomy c c' with h3 | h3 | h3
      · have h3' : ¬ c' < c := by omega
        have HR := Lib.hid (show betI a b c a b' c' p = true by simp [betI, *]; try omega)
        go_enter Try.func52, Try.ntmps52
        go_wp2
        go_returns
        refine ⟨by rw [HR.out]; simp, ?_⟩
        repeat' (first
          | (with_reducible exact Below.refl _ _)
          | (with_reducible assumption)
          | (with_reducible refine Below.alloc ?_ ?_ _)
          | (with_reducible refine Below.drew ?_)
          | (with_reducible refine bdrewN ?_ _)
          | (with_reducible refine Below.setCell ?_ ?_ _)
          | (with_reducible refine bthen (by assumption) ?_ ?_)
          | go_size)
      · subst h3
        rcases Int.lt_or_le b b' with h4 | h4
        · have h4' : b ≤ b' := by omega
          have HR := Lib.hid (show betI a b c a b' c p = true by simp [betI, *]; try omega)
          go_enter Try.func52, Try.ntmps52
          go_wp2
          go_returns
          refine ⟨by rw [HR.out]; simp, ?_⟩
          repeat' (first
            | (with_reducible exact Below.refl _ _)
            | (with_reducible assumption)
            | (with_reducible refine Below.alloc ?_ ?_ _)
            | (with_reducible refine Below.drew ?_)
            | (with_reducible refine bdrewN ?_ _)
            | (with_reducible refine Below.setCell ?_ ?_ _)
            | (with_reducible refine bthen (by assumption) ?_ ?_)
            | go_size)
        · have h4' : ¬ b < b' := by omega
          have HR := Lib.hid (show betI a b c a b' c p = p by simp [betI, *]; try omega)
          go_enter Try.func52, Try.ntmps52
          go_wp2
          go_returns
          refine ⟨by rw [HR.out]; simp, ?_⟩
          repeat' (first
            | (with_reducible exact Below.refl _ _)
            | (with_reducible assumption)
            | (with_reducible refine Below.alloc ?_ ?_ _)
            | (with_reducible refine Below.drew ?_)
            | (with_reducible refine bdrewN ?_ _)
            | (with_reducible refine Below.setCell ?_ ?_ _)
            | (with_reducible refine bthen (by assumption) ?_ ?_)
            | go_size)
      · have h3' : ¬ c < c' := by omega
        have h3'' : ¬ c = c' := by omega
        have HR := Lib.hid (show betI a b c a b' c' p = false by simp [betI, *]; try omega)
        go_enter Try.func52, Try.ntmps52
        go_wp2
        go_returns
        refine ⟨by rw [HR.out]; simp, ?_⟩
        repeat' (first
          | (with_reducible exact Below.refl _ _)
          | (with_reducible assumption)
          | (with_reducible refine Below.alloc ?_ ?_ _)
          | (with_reducible refine Below.drew ?_)
          | (with_reducible refine bdrewN ?_ _)
          | (with_reducible refine Below.setCell ?_ ?_ _)
          | (with_reducible refine bthen (by assumption) ?_ ?_)
          | go_size)
  · have HR := Lib.hid (show betI a b c a' b' c' p = false by simp [betI, *]; try omega)
    go_enter Try.func52, Try.ntmps52
    go_wp2
    go_returns
    refine ⟨by rw [HR.out]; simp, ?_⟩
    repeat' (first
      | (with_reducible exact Below.refl _ _)
      | (with_reducible assumption)
      | (with_reducible refine Below.alloc ?_ ?_ _)
      | (with_reducible refine Below.drew ?_)
      | (with_reducible refine bdrewN ?_ _)
      | (with_reducible refine Below.setCell ?_ ?_ _)
      | (with_reducible refine bthen (by assumption) ?_ ?_)
      | go_size)
end Go.Proofs.Yteddchnmjppdeaa
