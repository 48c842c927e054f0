/- IdleLimits. -/
import Derived.Test.YtelakibjcihfaaaK3
import Derived.BigQuiet
namespace Go.Proofs.Ytelakibjcihfaaa
open Go.ChangeShapes Go.WideShapes Go.ChangeAt Go.RowKit
set_option linter.unusedVariables false
set_option linter.unusedSimpArgs false

/-- Does the first limit make the second one useless? -/
def betI (a b c a' b' c' : Int) (p : Bool) : Bool := decide (a = a') && decide (b ≤ b') && (decide (c < c') || (decide (c = c') && (decide (b < b') || p)))
def betAt (z : List Int) (i k : Nat) : Bool := !decide (k = i) && betI (tA z k) (tB z k) (tC z k) (tA z i) (tB z i) (tC z i) (decide (k < i))
def idleB (z : List Int) (n i : Nat) : Bool := anyN (betAt z i) n
def idleTo (z : List Int) (n : Nat) : Nat → List Int
  | 0 => []
  | k + 1 => if idleB z n k then idleTo z n k ++ [(k : Int)] else idleTo z n k
theorem idleTo_in {z : List Int} {n k : Nat} (h : idleB z n k = true) : idleTo z n (k + 1) = idleTo z n k ++ [(k : Int)] := by rw [idleTo, if_pos h]
theorem idleTo_out {z : List Int} {n k : Nat} (h : idleB z n k = false) : idleTo z n (k + 1) = idleTo z n k := by rw [idleTo, if_neg (by simp [h])]
theorem idleTo_len (z : List Int) (n : Nat) : ∀ k, (idleTo z n k).length ≤ k
  | 0 => by simp [idleTo]
  | k + 1 => by
    have := idleTo_len z n k
    simp only [idleTo]
    split <;> simp <;> omega
def fIdle (z : List Int) (n : Nat) : List Int × Int := if limsB z n then (idleTo z n n, 0) else ([], 1)
theorem isBetter_c (a b c a' b' c' : Int) (p : Bool) (w : World) : Calls Try.prog 64 #[.agg #[.int .i64 a, .int .i64 b, .int .i64 c], .agg #[.int .i64 a', .int .i64 b', .int .i64 c'], .bool p] w fun e w' => e = .returned (.bool (betI a b c a' b' c' p)) ∧ Below w.heap.size w w' := by
  by_cases h1 : a = a'
  · subst h1
    rcases Int.lt_or_le b' b with h2 | h2
    · have h2' : ¬ b ≤ b' := by omega
      have HR := Lib.hid (show betI a b c a b' c' p = false by simp [betI, *]; try omega)
      go_enter Try.func64, Try.ntmps64
      go_wp2
      go_returns
      refine ⟨by rw [HR.out]; simp, ?_⟩
      repeat' (first
        | (with_reducible exact Below.refl _ _)
        | (with_reducible assumption)
        | (with_reducible refine Below.alloc ?_ ?_ _)
        | (with_reducible refine Below.drew ?_)
        | (with_reducible refine bdrewN ?_ _)
        | (with_reducible refine Below.setCell ?_ ?_ _)
        | (with_reducible refine bthen (by assumption) ?_ ?_)
        | go_size)
    · have h2' : ¬ b' < b := by omega
      rcases Int.lt_trichotomy c c' with h3 | h3 | h3
      · have h3' : ¬ c' < c := by omega
        have HR := Lib.hid (show betI a b c a b' c' p = true by simp [betI, *]; try omega)
        go_enter Try.func64, Try.ntmps64
        go_wp2
        go_returns
        refine ⟨by rw [HR.out]; simp, ?_⟩
        repeat' (first
          | (with_reducible exact Below.refl _ _)
          | (with_reducible assumption)
          | (with_reducible refine Below.alloc ?_ ?_ _)
          | (with_reducible refine Below.drew ?_)
          | (with_reducible refine bdrewN ?_ _)
          | (with_reducible refine Below.setCell ?_ ?_ _)
          | (with_reducible refine bthen (by assumption) ?_ ?_)
          | go_size)
      · subst h3
        rcases Int.lt_or_le b b' with h4 | h4
        · have h4' : b ≤ b' := by omega
          have HR := Lib.hid (show betI a b c a b' c p = true by simp [betI, *]; try omega)
          go_enter Try.func64, Try.ntmps64
          go_wp2
          go_returns
          refine ⟨by rw [HR.out]; simp, ?_⟩
          repeat' (first
            | (with_reducible exact Below.refl _ _)
            | (with_reducible assumption)
            | (with_reducible refine Below.alloc ?_ ?_ _)
            | (with_reducible refine Below.drew ?_)
            | (with_reducible refine bdrewN ?_ _)
            | (with_reducible refine Below.setCell ?_ ?_ _)
            | (with_reducible refine bthen (by assumption) ?_ ?_)
            | go_size)
        · have h4' : ¬ b < b' := by omega
          have HR := Lib.hid (show betI a b c a b' c p = p by simp [betI, *]; try omega)
          go_enter Try.func64, Try.ntmps64
          go_wp2
          go_returns
          refine ⟨by rw [HR.out]; simp, ?_⟩
          repeat' (first
            | (with_reducible exact Below.refl _ _)
            | (with_reducible assumption)
            | (with_reducible refine Below.alloc ?_ ?_ _)
            | (with_reducible refine Below.drew ?_)
            | (with_reducible refine bdrewN ?_ _)
            | (with_reducible refine Below.setCell ?_ ?_ _)
            | (with_reducible refine bthen (by assumption) ?_ ?_)
            | go_size)
      · have h3' : ¬ c < c' := by omega
        have h3'' : ¬ c = c' := by omega
        have HR := Lib.hid (show betI a b c a b' c' p = false by simp [betI, *]; try omega)
        go_enter Try.func64, Try.ntmps64
        go_wp2
        go_returns
        refine ⟨by rw [HR.out]; simp, ?_⟩
        repeat' (first
          | (with_reducible exact Below.refl _ _)
          | (with_reducible assumption)
          | (with_reducible refine Below.alloc ?_ ?_ _)
          | (with_reducible refine Below.drew ?_)
          | (with_reducible refine bdrewN ?_ _)
          | (with_reducible refine Below.setCell ?_ ?_ _)
          | (with_reducible refine bthen (by assumption) ?_ ?_)
          | go_size)
  · have HR := Lib.hid (show betI a b c a' b' c' p = false by simp [betI, *]; try omega)
    go_enter Try.func64, Try.ntmps64
    go_wp2
    go_returns
    refine ⟨by rw [HR.out]; simp, ?_⟩
    repeat' (first
      | (with_reducible exact Below.refl _ _)
      | (with_reducible assumption)
      | (with_reducible refine Below.alloc ?_ ?_ _)
      | (with_reducible refine Below.drew ?_)
      | (with_reducible refine bdrewN ?_ _)
      | (with_reducible refine Below.setCell ?_ ?_ _)
      | (with_reducible refine bthen (by assumption) ?_ ?_)
      | go_size)
set_option maxRecDepth 100000 in
set_option maxHeartbeats 4000000 in
theorem specIdleLimits_c (A : Option Addr) (n : Nat) (z : List Int) (hz : z.length = n * 3) (hn : n ≤ 1048576) (w : World) (hr : RowI w A z) : Calls Try.prog 38 #[.slice A n n] w fun e w' => ∃ v, e = .returned (.tuple #[v, .int .i64 (fIdle z n).2]) ∧ OwnI 2 w' w.heap.size v (fIdle z n).1 ∧ Below w.heap.size w w' := by
  cases hh : limsB z n
  · have HF := Lib.hid (show fIdle z n = ([], 1) by simp [fIdle, hh])
    go_enter Try.func38, Try.ntmps38
    go_wp2_with (go_at_call 50; (refine (l08Limits_c _ n _ z hz hn _ hr).mono ?_); rintro e w1 ⟨rfl, hb1⟩)
    go_returns
    exact ⟨_, by (rw [HF.out]) <;> rfl, by rw [HF.out]; exact OwnI.nil _ _ _, hb1⟩
  have HF := Lib.hid (show fIdle z n = (idleTo z n n, 0) by simp [fIdle, hh])
  have HH := Lib.hid (limsB_true hh)
  have n8 := HH.out.1
  go_enter Try.func38, Try.ntmps38
  go_wp2_with (go_at_call 50; (refine (l08Limits_c _ n _ z hz hn _ hr).mono ?_); rintro e w1 ⟨rfl, hb1⟩; have hr1 := hr.below hb1; have z1 : w.heap.size ≤ w1.heap.size := hb1.size)
  go_loopw [4, 5] (fun v i wr => ∃ k : Nat, k ≤ n ∧ i = .int .i64 k ∧ Hid (OwnI 2 wr w1.heap.size v (idleTo z n k)) ∧ Below w1.heap.size w1 wr) (fun _ i _ => n - (intOf i).toNat)
  case atStart => exact ⟨0, by omega, rfl, Lib.hid (OwnI.lit _ _ _ (Nat.le_refl _)), (Below.refl _ _).alloc (Nat.le_refl _) _⟩
  case round =>
    obtain ⟨k, hk, rfl, HO, hBr⟩ := hrel
    have hsr := hBr.size
    have hkl := idleTo_len z n k
    by_cases hlt : k < n
    · have i1 : (k : Int) < n := by omega
      have hrk := hr1.below hBr
      obtain ⟨b, off, rfl, hbb, d1, d2, d3⟩ := hrk.tri hz hlt
      go_wp2
      go_loopw [6, 7] (fun v i wi => ∃ (j q : Nat) (p : Bool), j ≤ n ∧ i = .int .i64 j ∧ v = .bool p ∧ Hid (anyN (betAt z k) j = p) ∧ wi = wr.drewN q) (fun _ i _ => n - (intOf i).toNat)
      case atStart => exact ⟨0, 0, false, by omega, rfl, rfl, Lib.hid rfl, rfl⟩
      case round =>
        obtain ⟨j, q, p, hj1, rfl, rfl, HP, rfl⟩ := hrel
        by_cases hjn : j < n
        · have j1 : (j : Int) < n := by omega
          obtain ⟨b', off', e', hbb', c1, c2, c3⟩ := hrk.tri hz hjn
          simp only [Option.some.injEq, Addr.mk.injEq, and_true] at e'
          obtain ⟨rfl, rfl⟩ := e'
          have HN := Lib.hid (show anyN (betAt z k) (j + 1) = (p || betAt z k j) by rw [anyN_succ, HP.out])
          generalize hxa : tA z j = xa at *
          generalize hxb : tB z j = xb at *
          generalize hxc : tC z j = xc at *
          generalize hya : tA z k = ya at *
          generalize hyb : tB z k = yb at *
          generalize hyc : tC z k = yc at *
          have HB := Lib.hid (show betAt z k j = (!decide (j = k) && betI xa xb xc ya yb yc (decide (j < k))) by simp only [betAt, hxa, hxb, hxc, hya, hyb, hyc])
          clear hxa hxb hxc hya hyb hyc
          by_cases hjk : j = k
          · subst hjk
            have b0 : ((j : Int) == (j : Int)) = true := by first | (simp; done) | (simp; omega)
            have HV := Lib.hid (show anyN (betAt z j) (j + 1) = p by rw [HN.out, HB.out]; simp [betI, *])
            go_wp2
            go_quiet (fail)
            go_wp2
            go_roundw
            case rel => exact ⟨j + 1, _, _, by omega, by go_num, rfl, Lib.hid (by rw [HV.out]), rfl⟩
            case measure => simp [intOf]; omega
          · have q0 : ¬ (j : Int) = k := by omega
            have q1 : ((j : Int) == (k : Int)) = false := by simp; omega
            by_cases hab : xa = ya
            · subst hab
              have q2 : (xa != xa) = false := by simp
              rcases Int.lt_or_le yb xb with h1 | h1
              · skip
                have p0 : ¬ xb ≤ yb := by omega
                have b0 : decide (yb < xb) = true := by first | (simp; done) | (simp; omega)
                have HV := Lib.hid (show anyN (betAt z k) (j + 1) = p by rw [HN.out, HB.out]; simp [betI, *])
                go_wp2
                go_quiet (fail)
                go_wp2
                go_roundw
                case rel => exact ⟨j + 1, _, _, by omega, by go_num, rfl, Lib.hid (by rw [HV.out]), rfl⟩
                case measure => simp [intOf]; omega
              · have r1 : decide (yb < xb) = false := by simp; omega
                rcases Int.lt_or_le yc xc with h2 | h2
                · skip
                  have p0 : ¬ xc < yc := by omega
                  have p1 : ¬ xc = yc := by omega
                  have b0 : decide (yc < xc) = true := by first | (simp; done) | (simp; omega)
                  have HV := Lib.hid (show anyN (betAt z k) (j + 1) = p by rw [HN.out, HB.out]; simp [betI, *])
                  go_wp2
                  go_quiet (fail)
                  go_wp2
                  go_roundw
                  case rel => exact ⟨j + 1, _, _, by omega, by go_num, rfl, Lib.hid (by rw [HV.out]), rfl⟩
                  case measure => simp [intOf]; omega
                · have r2 : decide (yc < xc) = false := by simp; omega
                  cases p
                  · rcases Int.lt_or_le xc yc with h3 | h3
                    · skip
                      have b0 : decide (xc < yc) = true := by first | (simp; done) | (simp; omega)
                      have HV := Lib.hid (show anyN (betAt z k) (j + 1) = true by rw [HN.out, HB.out]; simp [betI, *])
                      go_wp2
                      go_quiet (fail)
                      go_wp2
                      go_quiet (fail)
                      go_wp2
                      go_roundw
                      case rel => exact ⟨j + 1, _, _, by omega, by go_num, rfl, Lib.hid (by rw [HV.out]), rfl⟩
                      case measure => simp [intOf]; omega
                    · obtain rfl : xc = yc := by omega
                      have r3 : decide (xc < xc) = false := by simp
                      rcases Int.lt_or_le xb yb with h4 | h4
                      · skip
                        have b0 : decide (xb < yb) = true := by first | (simp; done) | (simp; omega)
                        have HV := Lib.hid (show anyN (betAt z k) (j + 1) = true by rw [HN.out, HB.out]; simp [betI, *])
                        go_wp2
                        go_quiet (fail)
                        go_wp2
                        go_quiet (fail)
                        go_wp2
                        go_roundw
                        case rel => exact ⟨j + 1, _, _, by omega, by go_num, rfl, Lib.hid (by rw [HV.out]), rfl⟩
                        case measure => simp [intOf]; omega
                      · have r4 : decide (xb < yb) = false := by simp; omega
                        have r5 : ¬ xb < yb := by omega
                        by_cases h5 : j < k
                        · skip
                          have p0 : (j : Int) < k := by omega
                          have b0 : decide ((j : Int) < (k : Int)) = true := by first | (simp; done) | (simp; omega)
                          have HV := Lib.hid (show anyN (betAt z k) (j + 1) = true by rw [HN.out, HB.out]; simp [betI, *])
                          go_wp2
                          go_quiet (fail)
                          go_wp2
                          go_quiet (fail)
                          go_wp2
                          go_roundw
                          case rel => exact ⟨j + 1, _, _, by omega, by go_num, rfl, Lib.hid (by rw [HV.out]), rfl⟩
                          case measure => simp [intOf]; omega
                        · skip
                          have p0 : ¬ (j : Int) < k := by omega
                          have b0 : decide ((j : Int) < (k : Int)) = false := by first | (simp; done) | (simp; omega)
                          have HV := Lib.hid (show anyN (betAt z k) (j + 1) = false by rw [HN.out, HB.out]; simp [betI, *])
                          go_wp2
                          go_quiet (fail)
                          go_wp2
                          go_quiet (fail)
                          go_wp2
                          go_roundw
                          case rel => exact ⟨j + 1, _, _, by omega, by go_num, rfl, Lib.hid (by rw [HV.out]), rfl⟩
                          case measure => simp [intOf]; omega
                  · have HX : True := trivial
                    have HV := Lib.hid (show anyN (betAt z k) (j + 1) = true by rw [HN.out, HB.out]; simp [betI, *])
                    go_wp2
                    go_quiet (fail)
                    go_wp2
                    go_quiet (fail)
                    go_wp2
                    go_roundw
                    case rel => exact ⟨j + 1, _, _, by omega, by go_num, rfl, Lib.hid (by rw [HV.out]), rfl⟩
                    case measure => simp [intOf]; omega
            · skip
              have b0 : (xa != ya) = true := by first | (simp; done) | (simp; omega)
              have b1 : (xa == ya) = false := by first | (simp; done) | (simp; omega)
              have HV := Lib.hid (show anyN (betAt z k) (j + 1) = p by rw [HN.out, HB.out]; simp [betI, *])
              go_wp2
              go_quiet (fail)
              go_wp2
              go_roundw
              case rel => exact ⟨j + 1, _, _, by omega, by go_num, rfl, Lib.hid (by rw [HV.out]), rfl⟩
              case measure => simp [intOf]; omega
        · obtain rfl : j = n := by omega
          have hP := HP.out
          change idleB z j k = p at hP
          subst hP
          cases hp : idleB z j k
          · have HN := Lib.hid (idleTo_out hp)
            go_wp2
            all_goals (go_roundw; (case rel => exact ⟨k + 1, by omega, by go_num, Lib.hid (by rw [HN.out]; exact HO.out.drewN _), bdrewN hBr _⟩); (case measure => simp [intOf]; omega))
          · have HN := Lib.hid (idleTo_in hp)
            have HO1 := Lib.hid (HO.out.drewN q)
            have hsq : (wr.drewN q).heap.size = wr.heap.size := rfl
            go_wp2_with (at_builtin; refine wpList_push rfl _ _ 43 rfl Try.underlying43 int64_info (k : Int) rfl HO1.out rfl rfl (by omega) (by omega) ?_; intro v' w3 hO' hB'; have HO' := Lib.hid hO'; clear hO')
            all_goals (go_roundw; (case rel => exact ⟨k + 1, by omega, by go_num, Lib.hid (by rw [HN.out]; exact HO'.out), (bdrewN hBr _).trans hB'⟩); (case measure => simp [intOf]; omega))
    · obtain rfl : k = n := by omega
      go_wp2
      go_returns
      exact ⟨_, by (rw [HF.out]) <;> rfl, by rw [HF.out]; exact HO.out.mono (by omega), hb1.trans (hBr.mono (by omega))⟩
end Go.Proofs.Ytelakibjcihfaaa
