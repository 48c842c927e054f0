/- The hardest pull: the reference and the law. -/
import Derived.Test.YtgnanppgbkngnaaM3
namespace Go.Proofs.Ytgnanppgbkngnaa
open Go.ChangeShapes Go.WideShapes Go.ChangeAt Go.RowKit
set_option linter.unusedVariables false
set_option linter.unusedSimpArgs false

theorem max_absI (x : Int) : max x (-x) = absI x := by
  unfold absI
  split <;> omega
theorem specHardestPull_c (p m l : Int) (A : Option Addr) (c : Nat) (xs : List Int) (hn : xs.length ≤ 1048576) (w : World) (hr : RowI w A xs) : Calls Try.prog 28 #[.agg #[.int .i64 p, .int .i64 m, .int .i64 l], .slice A xs.length c] w fun e w' => e = .returned (.tuple #[.int .i64 (fHard p m l xs).1, .int .i64 (fHard p m l xs).2.1, .int .i64 (fHard p m l xs).2.2]) ∧ Below w.heap.size w w' := by
  cases hok : motorOk p m l <;> cases hf : foB xs
  rotate_left 3
  · obtain ⟨hlen, hall⟩ := foB_true hf
    have HALL := Lib.hid hall
    clear hall
    go_enter Try.func28, Try.ntmps28
    go_wp2_with
      (first
        | (go_at_call 50; go_call (l10Ok_c p m l); rintro e w' ⟨rfl, rfl⟩)
        | (go_at_call 58; (apply Calls.mono; focus ((apply (l10Forces_c _ _ xs hn)); (all_goals (first | (with_reducible assumption) | omega | (repeat (first | (with_reducible assumption) | (with_reducible exact RowI.new _ _ _) | ((with_reducible refine RowI.new_at ?_); (simp; done)) | (with_reducible refine RowI.drewN ?_ _) | (with_reducible refine RowI.drew ?_) | (with_reducible refine RowI.alloc ?_ _) | (with_reducible refine RowI.below ?_ (by with_reducible assumption)))))); done)); rintro e w' ⟨rfl, rfl⟩))
    have hr' : RowI (w.alloc (.cells #[.int .i64 p, .int .i64 m, .int .i64 l] 28)) A xs := hr.alloc _
    have hB : Below w.heap.size w (w.alloc (.cells #[.int .i64 p, .int .i64 m, .int .i64 l] 28)) := (Below.refl _ _).alloc (Nat.le_refl _) _
    clear hr
    generalize w.alloc (.cells #[.int .i64 p, .int .i64 m, .int .i64 l] 28) = W at *
    go_loopw [7, 8, 9] (fun b s v wr => ∃ k : Nat, k ≤ xs.length ∧ v = .int .i64 k ∧ ((k = 0 ∧ b = .int .i64 (-1) ∧ s = .int .i64 0) ∨ (0 < k ∧ b = .int .i64 (bestTo xs k) ∧ s = .int .i64 (absI (nth xs (bestTo xs k))))) ∧ ∃ n, wr = W.drewN n) (fun _ _ v _ => xs.length - (intOf v).toNat)
    case atStart => exact ⟨0, by omega, rfl, .inl ⟨rfl, rfl, rfl⟩, 0, rfl⟩
    case round =>
      obtain ⟨k, hk, rfl, hcase, n, rfl⟩ := hrel
      by_cases hlt : k < xs.length
      · obtain ⟨b, off, rfl, hbb, hc⟩ := hr' (by omega)
        have c1 := hc k hlt
        obtain ⟨a0, a1⟩ := HALL.out k hlt
        have j1 : (k : Int) < xs.length := by omega
        have hmx := max_absI (nth xs k)
        clear hc
        rcases hcase with ⟨rfl, rfl, rfl⟩ | ⟨hk0, rfl, rfl⟩
        · have c1' : W.cell? ⟨b, off, none⟩ = some (.int .i64 (nth xs 0)) := c1
          have HN := Lib.hid (show bestTo xs (0 + 1) = 0 by simp [bestTo])
          go_wp2
          go_quiet ((first
              | (go_at_call 63; exact quiet_left (l00Max_c _ _ _))
              | (go_at_call 63; exact quiet_add_left (l00Max_c _ _ _))))
          go_wp2
          go_roundw
          case rel => exact ⟨0 + 1, by omega, by go_num, .inr ⟨by omega, by (rw [HN.out]; try rfl), by (rw [HN.out]; first | rfl | rw [max_absI])⟩, (by first | exact ⟨_, rfl⟩ | exact ⟨_, World.drewN_drewN _ _ _⟩ | exact ⟨0, rfl⟩)⟩
          case measure => simp [intOf]; omega
        · cases hg : decide (absI (nth xs (bestTo xs k)) < absI (nth xs k))
          all_goals
            have HN := Lib.hid (show bestTo xs (k + 1) = if absI (nth xs (bestTo xs k)) < absI (nth xs k) then k else bestTo xs k from rfl)
            go_wp2
            go_quiet ((first
                | (go_at_call 63; exact quiet_left (l00Max_c _ _ _))
                | (go_at_call 63; exact quiet_add_left (l00Max_c _ _ _))))
            go_wp2
            go_roundw
            case rel => exact ⟨k + 1, by omega, by go_num, .inr ⟨by omega, by rw [HN.out]; simp at hg; first | rw [if_pos hg] | rw [if_neg (by omega)], by rw [HN.out]; simp at hg; first | rw [if_pos hg] | rw [if_neg (by omega)]⟩, (by first | exact ⟨_, rfl⟩ | exact ⟨_, World.drewN_drewN _ _ _⟩ | exact ⟨0, rfl⟩)⟩
            case measure => simp [intOf]; omega
      · obtain rfl : k = xs.length := by omega
        rcases hcase with ⟨h0, rfl, rfl⟩ | ⟨hk0, rfl, rfl⟩
        · have HF := Lib.hid (show fHard p m l xs = (0, 0, 3) by simp only [fHard, hok, hf, if_true, if_pos h0])
          clear h0
          go_wp2
          go_ret3
          refine ⟨by rw [HF.out]; rfl, ?_⟩
          repeat' (first
            | (with_reducible exact Below.refl _ _)
            | (with_reducible assumption)
            | (with_reducible refine Below.alloc ?_ ?_ _)
            | (with_reducible refine Below.drew ?_)
            | (with_reducible refine bdrewN ?_ _)
            | (with_reducible refine Below.setCell ?_ ?_ _)
            | (with_reducible refine bthen (by assumption) ?_ ?_)
            | go_size)
        · have HF := Lib.hid (show fHard p m l xs = ((bestTo xs xs.length : Int), absI (nth xs (bestTo xs xs.length)), 0) by simp only [fHard, hok, hf, if_true, if_neg (show ¬ xs.length = 0 by omega)])
          go_wp2
          go_ret3
          refine ⟨by rw [HF.out]; rfl, ?_⟩
          repeat' (first
            | (with_reducible exact Below.refl _ _)
            | (with_reducible assumption)
            | (with_reducible refine Below.alloc ?_ ?_ _)
            | (with_reducible refine Below.drew ?_)
            | (with_reducible refine bdrewN ?_ _)
            | (with_reducible refine Below.setCell ?_ ?_ _)
            | (with_reducible refine bthen (by assumption) ?_ ?_)
            | go_size)
  all_goals
    go_enter Try.func28, Try.ntmps28
    go_wp2_with
      (first
        | (go_at_call 50; go_call (l10Ok_c p m l); rintro e w' ⟨rfl, rfl⟩)
        | (go_at_call 58; (apply Calls.mono; focus ((apply (l10Forces_c _ _ xs hn)); (all_goals (first | (with_reducible assumption) | omega | (repeat (first | (with_reducible assumption) | (with_reducible exact RowI.new _ _ _) | ((with_reducible refine RowI.new_at ?_); (simp; done)) | (with_reducible refine RowI.drewN ?_ _) | (with_reducible refine RowI.drew ?_) | (with_reducible refine RowI.alloc ?_ _) | (with_reducible refine RowI.below ?_ (by with_reducible assumption)))))); done)); rintro e w' ⟨rfl, rfl⟩))
    go_returns
    refine ⟨by simp [fHard, hok, hf], ?_⟩
    repeat' (first
      | (with_reducible exact Below.refl _ _)
      | (with_reducible assumption)
      | (with_reducible refine Below.alloc ?_ ?_ _)
      | (with_reducible refine Below.drew ?_)
      | (with_reducible refine bdrewN ?_ _)
      | (with_reducible refine Below.setCell ?_ ?_ _)
      | (with_reducible refine bthen (by assumption) ?_ ?_)
      | go_size)
theorem walk_FnExactHardestPull (p m l : Int) (A : Option Addr) (n c : Nat) (z : List Int) (w : World) (_ : I64 p) (_ : I64 m) (_ : I64 l) (h : IntArg w A n z) : Calls Try.prog 7 #[.agg #[.int .i64 p, .int .i64 m, .int .i64 l], .slice A n c] w fun e w' => e = .returned (.bool true) ∧ Below w.heap.size w w' := by
  obtain ⟨rfl, hmax, hr, hz⟩ := h
  clear hz
  by_cases hn : z.length ≤ 1048576
  · go_enter Try.func7, Try.ntmps7
    go_wp2_with
      (first
        | (go_at_call 20; go_call (toMotor_c _ _ _ _); rintro e w' ⟨rfl, hb⟩; obtain ⟨qc, qf, qz, qs⟩ := bfacts hb; (try simp only [World.size_alloc, World.size_setCell, World.size_drew, World.heap_drewN] at qs); have za : w.heap.size < w'.heap.size := (by omega); have pa0 : w'.cell? ⟨w.heap.size, 0, none⟩ = some (.int .i64 p) := (by rw [qc _ _ (by first | assumption | (simp; done) | (simp; omega))]; first | assumption | (simp; done) | (simp [*]; done) | (simp [*, go_sem]; done)); have pa1 : w'.cell? ⟨w.heap.size, 1, none⟩ = some (.int .i64 m) := (by rw [qc _ _ (by first | assumption | (simp; done) | (simp; omega))]; first | assumption | (simp; done) | (simp [*]; done) | (simp [*, go_sem]; done)); have pa2 : w'.cell? ⟨w.heap.size, 2, none⟩ = some (.int .i64 l) := (by rw [qc _ _ (by first | assumption | (simp; done) | (simp; omega))]; first | assumption | (simp; done) | (simp [*]; done) | (simp [*, go_sem]; done)))
        | (go_at_call 23; (apply Calls.mono; focus ((apply (toInt64S_c _ _ z hn)); (all_goals (first | (with_reducible assumption) | omega | (repeat (first | (with_reducible assumption) | (with_reducible exact RowI.new _ _ _) | ((with_reducible refine RowI.new_at ?_); (simp; done)) | (with_reducible refine RowI.drewN ?_ _) | (with_reducible refine RowI.drew ?_) | (with_reducible refine RowI.alloc ?_ _) | (with_reducible refine RowI.below ?_ (by with_reducible assumption)))))); done)); rintro e w' ⟨rfl, rfl⟩)
        | (go_at_call 28; (apply Calls.mono; focus ((apply (specHardestPull_c _ _ _ _ _ z hn)); (all_goals (first | (with_reducible assumption) | omega | (repeat (first | (with_reducible assumption) | (with_reducible exact RowI.new _ _ _) | ((with_reducible refine RowI.new_at ?_); (simp; done)) | (with_reducible refine RowI.drewN ?_ _) | (with_reducible refine RowI.drew ?_) | (with_reducible refine RowI.alloc ?_ _) | (with_reducible refine RowI.below ?_ (by with_reducible assumption)))))); done)); rintro e w' ⟨rfl, hb⟩; obtain ⟨qc, qf, qz, qs⟩ := bfacts hb; (try simp only [World.size_alloc, World.size_setCell, World.size_drew, World.heap_drewN] at qs); have za : w.heap.size < w'.heap.size := (by omega); have pa0 : w'.cell? ⟨w.heap.size, 0, none⟩ = some (.int .i64 p) := (by rw [qc _ _ (by first | assumption | (simp; done) | (simp; omega))]; first | assumption | (simp; done) | (simp [*]; done) | (simp [*, go_sem]; done)); have pa1 : w'.cell? ⟨w.heap.size, 1, none⟩ = some (.int .i64 m) := (by rw [qc _ _ (by first | assumption | (simp; done) | (simp; omega))]; first | assumption | (simp; done) | (simp [*]; done) | (simp [*, go_sem]; done)); have pa2 : w'.cell? ⟨w.heap.size, 2, none⟩ = some (.int .i64 l) := (by rw [qc _ _ (by first | assumption | (simp; done) | (simp; omega))]; first | assumption | (simp; done) | (simp [*]; done) | (simp [*, go_sem]; done)))
        | (go_at_call 29; (apply Calls.mono; focus ((apply (implHardestPull_c _ _ _ _ _ z hn)); (all_goals (first | (with_reducible assumption) | omega | (repeat (first | (with_reducible assumption) | (with_reducible exact RowI.new _ _ _) | ((with_reducible refine RowI.new_at ?_); (simp; done)) | (with_reducible refine RowI.drewN ?_ _) | (with_reducible refine RowI.drew ?_) | (with_reducible refine RowI.alloc ?_ _) | (with_reducible refine RowI.below ?_ (by with_reducible assumption)))))); done)); rintro e w' ⟨rfl, hb⟩; obtain ⟨qc, qf, qz, qs⟩ := bfacts hb; (try simp only [World.size_alloc, World.size_setCell, World.size_drew, World.heap_drewN] at qs); have za : w.heap.size < w'.heap.size := (by omega); have pa0 : w'.cell? ⟨w.heap.size, 0, none⟩ = some (.int .i64 p) := (by rw [qc _ _ (by first | assumption | (simp; done) | (simp; omega))]; first | assumption | (simp; done) | (simp [*]; done) | (simp [*, go_sem]; done)); have pa1 : w'.cell? ⟨w.heap.size, 1, none⟩ = some (.int .i64 m) := (by rw [qc _ _ (by first | assumption | (simp; done) | (simp; omega))]; first | assumption | (simp; done) | (simp [*]; done) | (simp [*, go_sem]; done)); have pa2 : w'.cell? ⟨w.heap.size, 2, none⟩ = some (.int .i64 l) := (by rw [qc _ _ (by first | assumption | (simp; done) | (simp; omega))]; first | assumption | (simp; done) | (simp [*]; done) | (simp [*, go_sem]; done)))
        | (go_at_call 25; (apply Calls.mono; focus ((apply (eqInt64S_c _ _ _ _ z hn)); (all_goals (first | (with_reducible assumption) | omega | (repeat (first | (with_reducible assumption) | (with_reducible exact RowI.new _ _ _) | ((with_reducible refine RowI.new_at ?_); (simp; done)) | (with_reducible refine RowI.drewN ?_ _) | (with_reducible refine RowI.drew ?_) | (with_reducible refine RowI.alloc ?_ _) | (with_reducible refine RowI.below ?_ (by with_reducible assumption)))))); done)); rintro e w' ⟨rfl, nq, rfl⟩))
    go_returns
    refine ⟨by simp, ?_⟩
    repeat' (first
      | (with_reducible exact Below.refl _ _)
      | (with_reducible assumption)
      | (with_reducible refine Below.alloc ?_ ?_ _)
      | (with_reducible refine Below.drew ?_)
      | (with_reducible refine bdrewN ?_ _)
      | (with_reducible refine Below.setCell ?_ ?_ _)
      | (with_reducible refine bthen (by assumption) ?_ ?_)
      | go_size)
  · go_enter Try.func7, Try.ntmps7
    go_wp2
    go_returns
    refine ⟨by simp, ?_⟩
    repeat' (first
      | (with_reducible exact Below.refl _ _)
      | (with_reducible assumption)
      | (with_reducible refine Below.alloc ?_ ?_ _)
      | (with_reducible refine Below.drew ?_)
      | (with_reducible refine bdrewN ?_ _)
      | (with_reducible refine Below.setCell ?_ ?_ _)
      | (with_reducible refine bthen (by assumption) ?_ ?_)
      | go_size)
end Go.Proofs.Ytgnanppgbkngnaa
