/- Lists of forces: are they forces; the hardest pull. -/
import Derived.Test.YtgnanppgbkngnaaF
import Derived.Test.YtgnanppgbkngnaaM
namespace Go.Proofs.Ytgnanppgbkngnaa
open Go.ChangeShapes Go.WideShapes Go.ChangeAt Go.RowKit
set_option linter.unusedVariables false
set_option linter.unusedSimpArgs false

def notFo (n : Int) : Bool := !inB n (-1000000) 1000000
def foB (xs : List Int) : Bool := decide ((xs.length : Int) ≤ 60) && !xs.any notFo
theorem foB_true {xs : List Int} (h : foB xs = true) : xs.length ≤ 60 ∧ ∀ k, k < xs.length → -1000000 ≤ nth xs k ∧ nth xs k ≤ 1000000 := by
  simp only [foB, Bool.and_eq_true, decide_eq_true_eq, Bool.not_eq_true', List.any_eq_false] at h
  refine ⟨by omega, fun k hk => inB_true ?_⟩
  have := h.2 _ (nth_mem hk)
  simpa [notFo] using this
/-- The first place of the greatest absolute value among the first k. -/
def bestTo (xs : List Int) : Nat → Nat
  | 0 => 0
  | k + 1 => if absI (nth xs (bestTo xs k)) < absI (nth xs k) then k else bestTo xs k
theorem bestTo_lt (xs : List Int) (k : Nat) (h : 0 < xs.length) (hk : k ≤ xs.length) : bestTo xs k < xs.length := by
  induction k with
  | zero => exact h
  | succ k ih =>
    have := ih (by omega)
    rw [bestTo]
    split <;> omega
def fHard (p m l : Int) (xs : List Int) : Int × Int × Int := if motorOk p m l then (if foB xs then (if xs.length = 0 then (0, 0, 3) else ((bestTo xs xs.length : Int), absI (nth xs (bestTo xs xs.length)), 0)) else (0, 0, 2)) else (0, 0, 1)
theorem areForces1_c (n : Int) (w : World) : Calls Try.prog 88 #[.int .i64 n] w fun e w' => e = .returned (.bool (notFo n)) ∧ w = w' := by
  go_enter Try.func88, Try.ntmps88
  go_wp2_with
    (first
      | (go_at_call 54; go_call (isForce_c _ _); rintro e w' ⟨rfl, rfl⟩))
  all_goals (go_ret; simp [notFo])
theorem indexFuncFo_c (A : Option Addr) (c : Nat) (xs : List Int) (hn : xs.length ≤ 1048576) (w : World) (hr : RowI w A xs) : Calls Try.prog 89 #[.slice A xs.length c, .func (.func 88) #[] #[]] w (IdxPost (xs.any notFo) w) := by
  go_enter Try.func89, Try.ntmps89
  go_wp2
  go_loop [8] (fun v => ∃ k : Nat, k ≤ xs.length ∧ v = .int .i64 k ∧ Hid (∀ j, j < k → notFo (nth xs j) = false)) (fun v => xs.length - (intOf v).toNat)
  case atStart => exact ⟨0, by omega, rfl, Lib.hid (fun j hj => by omega)⟩
  case round =>
    obtain ⟨k, hk, rfl, HK⟩ := hrel
    by_cases hlt : k < xs.length
    · obtain ⟨b, off, rfl, hb, hc⟩ := hr.at_ hlt
      cases hp : notFo (nth xs k)
      · have HN := Lib.hid (show ∀ j, j < k + 1 → notFo (nth xs j) = false from fun j hj => by
          rcases Nat.lt_or_ge j k with h1 | h1
          · exact HK.out j h1
          · obtain rfl : j = k := by omega
            exact hp)
        go_wp2_with (go_at_call 88; go_call (areForces1_c _ _); rintro e w' ⟨rfl, rfl⟩)
        go_round
        case rel => exact ⟨k + 1, by omega, by go_num, HN⟩
        case measure => simp [intOf]; omega
      · have HA := Lib.hid (any_of hlt hp)
        go_wp2_with (go_at_call 88; go_call (areForces1_c _ _); rintro e w' ⟨rfl, rfl⟩)
        go_ret
        exact ⟨k, rfl, by rw [HA.out]; simp, rfl⟩
    · obtain rfl : k = xs.length := by omega
      have HA := Lib.hid (any_none HK.out)
      go_wp2
      go_ret
      exact ⟨-1, rfl, by rw [HA.out]; simp, rfl⟩
theorem containsFuncFo_c (A : Option Addr) (c : Nat) (xs : List Int) (hn : xs.length ≤ 1048576) (w : World) (hr : RowI w A xs) : Calls Try.prog 61 #[.slice A xs.length c, .func (.func 88) #[] #[]] w fun e w' => e = .returned (.bool (xs.any notFo)) ∧ w = w' := by
  have HC := Lib.hid (indexFuncFo_c A c xs hn w hr)
  generalize xs.any notFo = b at *
  go_enter Try.func61, Try.ntmps61
  go_wp2_with (go_at_call 89; (refine HC.out.mono ?_); rintro e w' ⟨r, rfl, hr, rfl⟩)
  go_ret
  exact ⟨by simp [hr], rfl⟩
theorem areForces_c (A : Option Addr) (c : Nat) (xs : List Int) (hn : xs.length ≤ 1048576) (w : World) (hr : RowI w A xs) : Calls Try.prog 60 #[.slice A xs.length c] w fun e w' => e = .returned (.bool (foB xs)) ∧ w = w' := by
  have HC := Lib.hid (containsFuncFo_c A c xs hn w hr)
  have hs : foB xs = (decide ((xs.length : Int) ≤ 60) && !xs.any notFo) := rfl
  rw [hs]
  clear hs
  generalize xs.any notFo = b at *
  by_cases h : (xs.length : Int) ≤ 60
  all_goals
    go_enter Try.func60, Try.ntmps60
    go_wp2_with (go_at_call 61; (refine HC.out.mono ?_); rintro e w' ⟨rfl, rfl⟩)
    go_ret
    simp [h] <;> omega
theorem l10Forces_c (A : Option Addr) (c : Nat) (xs : List Int) (hn : xs.length ≤ 1048576) (w : World) (hr : RowI w A xs) : Calls Try.prog 58 #[.slice A xs.length c] w fun e w' => e = .returned (.bool (foB xs)) ∧ w = w' := by
  go_enter Try.func58, Try.ntmps58
  go_wp2
  go_loop [3] (fun v => ∃ k : Nat, k ≤ xs.length ∧ v = .int .i64 k ∧ Hid (∀ j, j < k → notFo (nth xs j) = false)) (fun v => xs.length - (intOf v).toNat)
  case atStart => exact ⟨0, by omega, rfl, Lib.hid (fun j hj => by omega)⟩
  case round =>
    obtain ⟨k, hk, rfl, HK⟩ := hrel
    by_cases hlt : k < xs.length
    · obtain ⟨b, off, rfl, hb, hc⟩ := hr.at_ hlt
      cases hp : inB (nth xs k) (-1000000) 1000000 
      · have HA := Lib.hid (show foB xs = false by rw [foB, any_of hlt (show notFo (nth xs k) = true by simp [notFo, hp])]; simp)
        go_wp2_with
          (first
            | (go_at_call 51; go_call (l10Force_c _ _); rintro e w' ⟨rfl, rfl⟩))
        go_ret
        exact ⟨by rw [HA.out]; rfl, rfl⟩
      · have HN := Lib.hid (show ∀ j, j < k + 1 → notFo (nth xs j) = false from fun j hj => by
          rcases Nat.lt_or_ge j k with h1 | h1
          · exact HK.out j h1
          · obtain rfl : j = k := by omega
            simp [notFo, hp])
        go_wp2_with
          (first
            | (go_at_call 51; go_call (l10Force_c _ _); rintro e w' ⟨rfl, rfl⟩))
        go_round
        case rel => exact ⟨k + 1, by omega, by go_num, HN⟩
        case measure => simp [intOf]; omega
    · obtain rfl : k = xs.length := by omega
      have HA := Lib.hid (show foB xs = decide ((xs.length : Int) ≤ 60) by rw [foB, any_none HK.out]; simp)
      go_wp2
      all_goals
        go_ret
        exact ⟨by rw [HA.out]; simp [*]; try omega, rfl⟩
theorem implHardestPull_c (p m l : Int) (A : Option Addr) (c : Nat) (xs : List Int) (hn : xs.length ≤ 1048576) (w : World) (hr : RowI w A xs) : Calls Try.prog 29 #[.agg #[.int .i64 p, .int .i64 m, .int .i64 l], .slice A xs.length c] w fun e w' => e = .returned (.tuple #[.int .i64 (fHard p m l xs).1, .int .i64 (fHard p m l xs).2.1, .int .i64 (fHard p m l xs).2.2]) ∧ Below w.heap.size w w' := by
  cases hok : motorOk p m l <;> cases hf : foB xs
  rotate_left 3
  · obtain ⟨hlen, hall⟩ := foB_true hf
    have HALL := Lib.hid hall
    clear hall
    by_cases h0 : xs.length = 0
    · have HF := Lib.hid (show fHard p m l xs = (0, 0, 3) by simp only [fHard, hok, hf, if_true, if_pos h0])
      have h0' : ((xs.length : Int) == 0) = true := by simp [h0]
      clear h0
      go_enter Try.func29, Try.ntmps29
      go_wp2
      go_region_held3 (fun w' => w'.cell? ⟨w.heap.size, 0, none⟩ = some (.int .i64 p) ∧ w'.cell? ⟨w.heap.size, 1, none⟩ = some (.int .i64 m) ∧ w'.cell? ⟨w.heap.size, 2, none⟩ = some (.int .i64 l)) (simp [*, go_sem])
        (first
          | (go_at_call 60; (apply Calls.mono; focus ((apply (areForces_c _ _ xs hn)); (all_goals (first | (with_reducible assumption) | omega | (repeat (first | (with_reducible assumption) | (with_reducible exact RowI.new _ _ _) | ((with_reducible refine RowI.new_at ?_); (simp; done)) | (with_reducible refine RowI.drewN ?_ _) | (with_reducible refine RowI.drew ?_) | (with_reducible refine RowI.alloc ?_ _) | (with_reducible refine RowI.below ?_ (by with_reducible assumption)) | (simp [*]; done))))); done)); rintro e w' ⟨rfl, rfl⟩)
          | (go_at_call 53; go_call (motored_c _ _ _ _ _); rintro e w' ⟨rfl, hb⟩; obtain ⟨qc, qf, qz, qs⟩ := bfacts hb; (try simp only [World.size_alloc, World.size_setCell, World.size_drew, World.heap_drewN] at qs)))
      go_wp2
      go_returns
      refine ⟨by rw [HF.out]; rfl, ?_⟩
      repeat' (first
        | (with_reducible exact Below.refl _ _)
        | (with_reducible assumption)
        | (with_reducible refine Below.alloc ?_ ?_ _)
        | (with_reducible refine Below.drew ?_)
        | (with_reducible refine bdrewN ?_ _)
        | (with_reducible refine Below.setCell ?_ ?_ _)
        | (with_reducible refine bthen (by assumption) ?_ ?_)
        | go_size)
    · have HF := Lib.hid (show fHard p m l xs = ((bestTo xs xs.length : Int), absI (nth xs (bestTo xs xs.length)), 0) by simp only [fHard, hok, hf, if_true, if_neg h0])
      have h0' : ((xs.length : Int) == 0) = false := beq_eq_false_iff_ne.2 (by omega)
      have hp : 0 < xs.length := by omega
      clear h0
      go_enter Try.func29, Try.ntmps29
      go_wp2
      go_region_held3 (fun w' => w'.cell? ⟨w.heap.size, 0, none⟩ = some (.int .i64 p) ∧ w'.cell? ⟨w.heap.size, 1, none⟩ = some (.int .i64 m) ∧ w'.cell? ⟨w.heap.size, 2, none⟩ = some (.int .i64 l)) (simp [*, go_sem])
        (first
          | (go_at_call 60; (apply Calls.mono; focus ((apply (areForces_c _ _ xs hn)); (all_goals (first | (with_reducible assumption) | omega | (repeat (first | (with_reducible assumption) | (with_reducible exact RowI.new _ _ _) | ((with_reducible refine RowI.new_at ?_); (simp; done)) | (with_reducible refine RowI.drewN ?_ _) | (with_reducible refine RowI.drew ?_) | (with_reducible refine RowI.alloc ?_ _) | (with_reducible refine RowI.below ?_ (by with_reducible assumption)) | (simp [*]; done))))); done)); rintro e w' ⟨rfl, rfl⟩)
          | (go_at_call 53; go_call (motored_c _ _ _ _ _); rintro e w' ⟨rfl, hb⟩; obtain ⟨qc, qf, qz, qs⟩ := bfacts hb; (try simp only [World.size_alloc, World.size_setCell, World.size_drew, World.heap_drewN] at qs)))
      go_wp2
      have hB : Below w.heap.size w w' := by
        repeat' (first
          | (with_reducible exact Below.refl _ _)
          | (with_reducible assumption)
          | (with_reducible refine Below.alloc ?_ ?_ _)
          | (with_reducible refine Below.drew ?_)
          | (with_reducible refine bdrewN ?_ _)
          | (with_reducible refine Below.setCell ?_ ?_ _)
          | (with_reducible refine bthen (by assumption) ?_ ?_)
          | go_size)
      have hr' : RowI w' A xs := hr.below hB
      clear hr qc qf qz qs hb h0'
      go_loopw [8, 23] (fun b v wr => ∃ k : Nat, k ≤ xs.length ∧ v = .int .i64 k ∧ b = .int .i64 (bestTo xs k) ∧ ∃ n, wr = w'.drewN n) (fun _ v _ => xs.length - (intOf v).toNat)
      case atStart => exact ⟨0, by omega, rfl, rfl, 0, rfl⟩
      case round =>
        obtain ⟨k, hk, rfl, rfl, n, rfl⟩ := hrel
        have hbl := bestTo_lt xs k hp hk
        obtain ⟨b, off, rfl, hbb, hc⟩ := hr' hp
        have c2 := hc _ hbl
        have j2 : ((bestTo xs k : Nat) : Int) < xs.length := by omega
        obtain ⟨b0, b1⟩ := HALL.out _ hbl
        by_cases hlt : k < xs.length
        · have c1 := hc k hlt
          obtain ⟨a0, a1⟩ := HALL.out k hlt
          have j1 : (k : Int) < xs.length := by omega
          clear hc
          cases hg : decide (absI (nth xs (bestTo xs k)) < absI (nth xs k))
          all_goals
            go_wp2
            go_quiet ((first
                | (go_at_call 64; exact quiet_left (abs_c _ (by omega) (by omega) _))
                | (go_at_call 64; exact quiet_add_left (abs_c _ (by omega) (by omega) _))))
            go_wp2
            go_roundw
            case rel => exact ⟨k + 1, by omega, by go_num, by rw [bestTo]; simp at hg; first | rw [if_pos hg] | rw [if_neg (by omega)], (by first | exact ⟨_, rfl⟩ | exact ⟨_, World.drewN_drewN _ _ _⟩ | exact ⟨0, rfl⟩)⟩
            case measure => simp [intOf]; omega
        · obtain rfl : k = xs.length := by omega
          clear hc
          go_wp2_with
            (first
              | (go_at_call 64; go_call (abs_c); rintro e w' ⟨rfl, rfl⟩))
          go_ret3
          refine ⟨by rw [HF.out]; rfl, ?_⟩
          repeat' (first
            | (with_reducible exact Below.refl _ _)
            | (with_reducible assumption)
            | (with_reducible refine Below.alloc ?_ ?_ _)
            | (with_reducible refine Below.drew ?_)
            | (with_reducible refine bdrewN ?_ _)
            | (with_reducible refine Below.setCell ?_ ?_ _)
            | (with_reducible refine bthen (by assumption) ?_ ?_)
            | go_size)
  all_goals
    go_enter Try.func29, Try.ntmps29
    go_wp2
    go_region_held3 (fun w' => w'.cell? ⟨w.heap.size, 0, none⟩ = some (.int .i64 p) ∧ w'.cell? ⟨w.heap.size, 1, none⟩ = some (.int .i64 m) ∧ w'.cell? ⟨w.heap.size, 2, none⟩ = some (.int .i64 l)) (simp [*, go_sem])
      (first
        | (go_at_call 60; (apply Calls.mono; focus ((apply (areForces_c _ _ xs hn)); (all_goals (first | (with_reducible assumption) | omega | (repeat (first | (with_reducible assumption) | (with_reducible exact RowI.new _ _ _) | ((with_reducible refine RowI.new_at ?_); (simp; done)) | (with_reducible refine RowI.drewN ?_ _) | (with_reducible refine RowI.drew ?_) | (with_reducible refine RowI.alloc ?_ _) | (with_reducible refine RowI.below ?_ (by with_reducible assumption)) | (simp [*]; done))))); done)); rintro e w' ⟨rfl, rfl⟩)
        | (go_at_call 53; go_call (motored_c _ _ _ _ _); rintro e w' ⟨rfl, hb⟩; obtain ⟨qc, qf, qz, qs⟩ := bfacts hb; (try simp only [World.size_alloc, World.size_setCell, World.size_drew, World.heap_drewN] at qs)))
    go_wp2
    go_returns
    refine ⟨by simp [fHard, hok, hf], ?_⟩
    repeat' (first
      | (with_reducible exact Below.refl _ _)
      | (with_reducible assumption)
      | (with_reducible refine Below.alloc ?_ ?_ _)
      | (with_reducible refine Below.drew ?_)
      | (with_reducible refine bdrewN ?_ _)
      | (with_reducible refine Below.setCell ?_ ?_ _)
      | (with_reducible refine bthen (by assumption) ?_ ?_)
      | go_size)
end Go.Proofs.Ytgnanppgbkngnaa
