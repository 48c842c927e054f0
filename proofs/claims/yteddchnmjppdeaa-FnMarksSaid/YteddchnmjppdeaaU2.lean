/- Contracts of the functions on marks: the widest gap. -/
import Derived.Test.YteddchnmjppdeaaU
namespace Go.Proofs.Yteddchnmjppdeaa
open Go.ChangeShapes Go.WideShapes Go.ChangeAt Go.RowKit
set_option linter.unusedVariables false
set_option linter.unusedSimpArgs false

theorem max_if (a b : Int) : max a b = if a < b then b else a := by omega
theorem implWidestGap_c (A : Option Addr) (c : Nat) (xs : List Int) (long : Int) (hI : I64 long) (hn : xs.length ≤ 1048576) (w : World) (hr : RowI w A xs) : Calls Try.prog 17 #[.slice A xs.length c, .int .i64 long] w fun e w' => e = .returned (.tuple #[.int .i64 (fGap xs long).1, .int .i64 (fGap xs long).2]) ∧ ∃ n, w' = w.drewN n := by
  cases hm : marksB xs long
  · go_enter Try.func17, Try.ntmps17
    go_wp2_with
      (first
        | (go_at_call 32; (apply Calls.mono; focus ((apply (areMarks_c _ _ xs _ hI hn)); (all_goals (first | (with_reducible assumption) | omega | (repeat (first | (with_reducible assumption) | (with_reducible exact RowI.new _ _ _) | ((with_reducible refine RowI.new_at ?_); (simp; done)) | (with_reducible refine RowI.drewN ?_ _) | (with_reducible refine RowI.drew ?_) | (with_reducible refine RowI.alloc ?_ _) | (with_reducible refine RowI.below ?_ (by with_reducible assumption)) | (simp [*]; done))))); done)); rintro e w' ⟨rfl, rfl⟩))
    go_ret2
    exact ⟨by simp [fGap, hm], (by first | exact ⟨_, rfl⟩ | exact ⟨_, World.drewN_drewN _ _ _⟩ | exact ⟨0, rfl⟩)⟩
  · obtain ⟨⟨l0, l1⟩, hlen, hb, hs⟩ := marksB_true hm
    by_cases h0 : xs.length = 0
    · have H0 := Lib.hid h0
      have h0' : ((xs.length : Int) == 0) = true := by simp [h0]
      clear hb hs h0
      go_enter Try.func17, Try.ntmps17
      go_wp2_with
        (first
          | (go_at_call 32; (apply Calls.mono; focus ((apply (areMarks_c _ _ xs _ hI hn)); (all_goals (first | (with_reducible assumption) | omega | (repeat (first | (with_reducible assumption) | (with_reducible exact RowI.new _ _ _) | ((with_reducible refine RowI.new_at ?_); (simp; done)) | (with_reducible refine RowI.drewN ?_ _) | (with_reducible refine RowI.drew ?_) | (with_reducible refine RowI.alloc ?_ _) | (with_reducible refine RowI.below ?_ (by with_reducible assumption)) | (simp [*]; done))))); done)); rintro e w' ⟨rfl, rfl⟩))
      go_ret2
      exact ⟨by simp [fGap, hm, H0.out], (by first | exact ⟨_, rfl⟩ | exact ⟨_, World.drewN_drewN _ _ _⟩ | exact ⟨0, rfl⟩)⟩
    · obtain ⟨b, off, rfl, hbb, hc⟩ := hr (by omega)
      have HC := Lib.hid hc
      have HB := Lib.hid hb
      have HS := Lib.hid hs
      have hp : 0 < xs.length := by omega
      have h0' : ((xs.length : Int) == 0) = false := beq_eq_false_iff_ne.2 (by omega)
      have HG := Lib.hid (show fGap xs long = (gapTo xs long (xs.length - 1), 0) by simp only [fGap, hm, if_true, if_neg h0])
      have c0 : w.cell? ⟨b, off, none⟩ = some (.int .i64 (nth xs 0)) := hc 0 hp
      have c1 : w.cell? ⟨b, off + (xs.length - 1), none⟩ = some (.int .i64 (nth xs (xs.length - 1))) := hc _ (by omega)
      obtain ⟨n0, n1⟩ := hb 0 hp
      obtain ⟨m0, m1⟩ := hb (xs.length - 1) (by omega)
      have e1 : ((xs.length : Int) - 1).toNat = xs.length - 1 := by omega
      clear hc hb hs h0
      go_enter Try.func17, Try.ntmps17
      go_wp2_with
        (first
          | (go_at_call 32; (apply Calls.mono; focus ((apply (areMarks_c _ _ xs _ hI hn)); (all_goals (first | (with_reducible assumption) | omega | (repeat (first | (with_reducible assumption) | (with_reducible exact RowI.new _ _ _) | ((with_reducible refine RowI.new_at ?_); (simp; done)) | (with_reducible refine RowI.drewN ?_ _) | (with_reducible refine RowI.drew ?_) | (with_reducible refine RowI.alloc ?_ _) | (with_reducible refine RowI.below ?_ (by with_reducible assumption)) | (simp [*]; done))))); done)); rintro e w' ⟨rfl, rfl⟩))
      go_quiet (fail)
      go_wp2
      clear c0 c1 e1 n0 n1 m0 m1
      go_loopw [6, 7] (fun g v wr => ∃ k : Nat, k + 1 ≤ xs.length ∧ v = .int .i64 (k + 1) ∧ g = .int .i64 (gapTo xs long k) ∧ ∃ n, wr = w.drewN n) (fun _ v _ => xs.length - (intOf v).toNat)
      case atStart => exact ⟨0, by omega, by go_num, rfl, (by first | exact ⟨_, rfl⟩ | exact ⟨_, World.drewN_drewN _ _ _⟩ | exact ⟨0, rfl⟩)⟩
      case round =>
        obtain ⟨k, hk, rfl, rfl, n, rfl⟩ := hrel
        by_cases hlt : k + 1 < xs.length
        · have c0 := HC.out k (by omega)
          have c1 : w.cell? ⟨b, off + k + 1, none⟩ = some (.int .i64 (nth xs (k + 1))) := by rw [Nat.add_assoc]; exact HC.out (k + 1) hlt
          have c1' : w.cell? ⟨b, off + (k + 1), none⟩ = some (.int .i64 (nth xs (k + 1))) := HC.out (k + 1) hlt
          obtain ⟨a0, a1⟩ := HB.out k (by omega)
          obtain ⟨b0, b1⟩ := HB.out (k + 1) hlt
          have i1 : (k : Int) + 1 < xs.length := by omega
          have i0 : (k : Int) < xs.length := by omega
          go_wp2
          go_quiet (fail)
          go_wp2
          all_goals
            go_roundw
            case rel => exact ⟨k + 1, by omega, by go_num, by first | rfl | rw [gapTo, max_if], (by first | exact ⟨_, rfl⟩ | exact ⟨_, World.drewN_drewN _ _ _⟩ | exact ⟨0, rfl⟩)⟩
            case measure => simp [intOf]; omega
        · go_wp2
          go_ret2
          obtain rfl : k = xs.length - 1 := by omega
          exact ⟨by rw [HG.out]; rfl, (by first | exact ⟨_, rfl⟩ | exact ⟨_, World.drewN_drewN _ _ _⟩ | exact ⟨0, rfl⟩)⟩
end Go.Proofs.Yteddchnmjppdeaa
