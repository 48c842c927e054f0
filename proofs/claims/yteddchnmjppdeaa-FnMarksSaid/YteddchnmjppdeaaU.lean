/- Contracts of the functions on marks: are they marks, and the widest gap. -/
import Derived.Test.YteddchnmjppdeaaS
namespace Go.Proofs.Yteddchnmjppdeaa
open Go.ChangeShapes Go.WideShapes Go.ChangeAt Go.RowKit
set_option linter.unusedVariables false
set_option linter.unusedSimpArgs false

/-- Does place k follow the rule of rising numbers within bounds? And the first k places? -/
def stepB (xs : List Int) (lo hi : Int) : Nat → Bool
  | 0 => inB (nth xs 0) lo hi
  | k + 1 => inB (nth xs (k + 1)) lo hi && !decide (nth xs (k + 1) ≤ nth xs k)
def riseTo (xs : List Int) (lo hi : Int) : Nat → Bool
  | 0 => true
  | k + 1 => riseTo xs lo hi k && stepB xs lo hi k
theorem riseTo_false {xs : List Int} {lo hi : Int} {k : Nat} (h : stepB xs lo hi k = false) : ∀ n, k < n → riseTo xs lo hi n = false := by
  intro n hn
  induction n with
  | zero => omega
  | succ n ih =>
    rw [riseTo]
    by_cases e : k = n
    · subst e; rw [h]; simp
    · rw [ih (by omega)]; simp
def risesB (xs : List Int) (lo hi : Int) : Bool := riseTo xs lo hi xs.length
def marksB (xs : List Int) (long : Int) : Bool := inB long 1 4000000 && decide ((xs.length : Int) ≤ 12) && risesB xs 0 (long - 1)
theorem riseTo_step {xs : List Int} {lo hi : Int} : ∀ {n}, riseTo xs lo hi n = true → ∀ k, k < n → stepB xs lo hi k = true := by
  intro n
  induction n with
  | zero => intro _ k hk; omega
  | succ n ih =>
    intro h k hk
    rw [riseTo, Bool.and_eq_true] at h
    by_cases e : k = n
    · subst e; exact h.2
    · exact ih h.1 k (by omega)
theorem marksB_true {xs : List Int} {long : Int} (h : marksB xs long = true) : (1 ≤ long ∧ long ≤ 4000000) ∧ xs.length ≤ 12 ∧ (∀ k, k < xs.length → 0 ≤ nth xs k ∧ nth xs k ≤ long - 1) ∧ (∀ k, k + 1 < xs.length → nth xs k < nth xs (k + 1)) := by
  simp only [marksB, Bool.and_eq_true, decide_eq_true_eq] at h
  obtain ⟨⟨h1, h2⟩, h3⟩ := h
  have hs := riseTo_step h3
  refine ⟨inB_true h1, by omega, fun k hk => ?_, fun k hk => ?_⟩
  · have := hs k hk
    cases k with
    | zero => exact inB_true this
    | succ k => rw [stepB, Bool.and_eq_true] at this; exact inB_true this.1
  · have := hs (k + 1) hk
    rw [stepB, Bool.and_eq_true] at this
    have h5 := this.2
    simp at h5
    exact h5
/-- The widest of the gaps round the end and up to place k. -/
def gapTo (xs : List Int) (long : Int) : Nat → Int
  | 0 => nth xs 0 + long - nth xs (xs.length - 1)
  | k + 1 => max (gapTo xs long k) (nth xs (k + 1) - nth xs k)
def fGap (xs : List Int) (long : Int) : Int × Int := if marksB xs long then (if xs.length = 0 then (0, 3) else (gapTo xs long (xs.length - 1), 0)) else (0, 2)
set_option maxHeartbeats 1000000 in
theorem l00Rises_c (A : Option Addr) (c : Nat) (xs : List Int) (lo hi : Int) (hn : xs.length ≤ 1048576) (w : World) (hr : RowI w A xs) : Calls Try.prog 62 #[.slice A xs.length c, .int .i64 lo, .int .i64 hi] w fun e w' => e = .returned (.bool (risesB xs lo hi)) ∧ ∃ n, w' = w.drewN n := by
  go_enter Try.func62, Try.ntmps62
  go_wp2
  go_loopw [7] (fun v wr => ∃ k : Nat, k ≤ xs.length ∧ v = .int .i64 k ∧ Hid (riseTo xs lo hi k = true) ∧ ∃ n, wr = w.drewN n) (fun v _ => xs.length - (intOf v).toNat)
  case atStart => exact ⟨0, by omega, rfl, Lib.hid rfl, 0, rfl⟩
  case round =>
    obtain ⟨k, hk, rfl, HK, n, rfl⟩ := hrel
    by_cases hlt : k < xs.length
    · obtain ⟨b, off, rfl, hb, hc⟩ := hr (by omega)
      have c1 := hc k hlt
      have i1 : (k : Int) < xs.length := by omega
      rcases k with _ | j
      · have c1' : w.cell? ⟨b, off, none⟩ = some (.int .i64 (nth xs 0)) := c1
        have i0 : (0 : Int) < xs.length := by omega
        clear hc hr
        cases k1 : inB (nth xs 0) lo hi
        · have HF := Lib.hid (riseTo_false (show stepB xs lo hi 0 = false from k1) xs.length hlt)
          go_wp2
          go_quiet ((first
              | (go_at_call 30; first | with_reducible exact quiet_add_left (l00In_v k1 _) | with_reducible exact quiet_left (l00In_v k1 _))))
          go_wp2
          go_ret
          exact ⟨by rw [show risesB xs lo hi = false from HF.out]; rfl, (by first | exact ⟨_, rfl⟩ | exact ⟨_, World.drewN_drewN _ _ _⟩ | exact ⟨0, rfl⟩)⟩
        · have HN := Lib.hid (show riseTo xs lo hi (0 + 1) = true by rw [riseTo, HK.out, show stepB xs lo hi 0 = true from k1]; rfl)
          go_wp2
          go_quiet ((first
              | (go_at_call 30; first | with_reducible exact quiet_add_left (l00In_v k1 _) | with_reducible exact quiet_left (l00In_v k1 _))))
          go_wp2
          go_roundw
          case rel => exact ⟨0 + 1, by omega, by go_num, HN, _, rfl⟩
          case measure => simp [intOf]; omega
      · have c0 := hc j (by omega)
        have c1' : w.cell? ⟨b, off + j + 1, none⟩ = some (.int .i64 (nth xs (j + 1))) := by rw [Nat.add_assoc]; exact c1
        have i0 : (j : Int) < xs.length := by omega
        have i2 : (j : Int) + 1 < xs.length := by omega
        clear hc hr
        cases k1 : inB (nth xs (j + 1)) lo hi
        · have HF := Lib.hid (riseTo_false (show stepB xs lo hi (j + 1) = false by rw [stepB, k1]; rfl) xs.length hlt)
          go_wp2
          go_quiet ((first
              | (go_at_call 30; first | with_reducible exact quiet_add_left (l00In_v k1 _) | with_reducible exact quiet_left (l00In_v k1 _))))
          go_wp2
          go_ret
          exact ⟨by rw [show risesB xs lo hi = false from HF.out]; rfl, (by first | exact ⟨_, rfl⟩ | exact ⟨_, World.drewN_drewN _ _ _⟩ | exact ⟨0, rfl⟩)⟩
        · cases k2 : decide (nth xs (j + 1) ≤ nth xs j)
          · have HN := Lib.hid (show riseTo xs lo hi (j + 1 + 1) = true by rw [riseTo, HK.out, stepB, k1, k2]; rfl)
            go_wp2
            go_quiet ((first
                | (go_at_call 30; first | with_reducible exact quiet_add_left (l00In_v k1 _) | with_reducible exact quiet_left (l00In_v k1 _))))
            go_wp2
            go_roundw
            case rel => exact ⟨j + 1 + 1, by omega, by go_num, HN, _, rfl⟩
            case measure => simp [intOf]; omega
          · have HF := Lib.hid (riseTo_false (show stepB xs lo hi (j + 1) = false by rw [stepB, k1, k2]; rfl) xs.length hlt)
            go_wp2
            go_quiet ((first
                | (go_at_call 30; first | with_reducible exact quiet_add_left (l00In_v k1 _) | with_reducible exact quiet_left (l00In_v k1 _))))
            go_wp2
            go_ret
            exact ⟨by rw [show risesB xs lo hi = false from HF.out]; rfl, (by first | exact ⟨_, rfl⟩ | exact ⟨_, World.drewN_drewN _ _ _⟩ | exact ⟨0, rfl⟩)⟩
    · obtain rfl : k = xs.length := by omega
      go_wp2
      go_ret
      exact ⟨by rw [show risesB xs lo hi = true from HK.out]; rfl, (by first | exact ⟨_, rfl⟩ | exact ⟨_, World.drewN_drewN _ _ _⟩ | exact ⟨0, rfl⟩)⟩
theorem areMarks_c (A : Option Addr) (c : Nat) (xs : List Int) (long : Int) (hI : I64 long) (hn : xs.length ≤ 1048576) (w : World) (hr : RowI w A xs) : Calls Try.prog 32 #[.slice A xs.length c, .int .i64 long] w fun e w' => e = .returned (.bool (marksB xs long)) ∧ w = w' := by
  obtain ⟨I0, I1⟩ := hI
  cases hl : inB long 1 4000000
  · have HM := Lib.hid (show marksB xs long = false by simp [marksB, hl])
    go_enter Try.func32, Try.ntmps32
    go_wp2
    go_loop [9] (fun v => ∃ k : Nat, k ≤ xs.length ∧ v = .int .i64 k) (fun v => xs.length - (intOf v).toNat)
    case atStart => exact ⟨0, by omega, rfl⟩
    case round =>
      obtain ⟨k, hk, rfl⟩ := hrel
      by_cases hlt : k < xs.length
      · obtain ⟨b, off, rfl, hb, hc⟩ := hr (by omega)
        have c1 := hc k hlt
        rcases k with _ | j
        · have c1' : w.cell? ⟨b, off, none⟩ = some (.int .i64 (nth xs 0)) := c1
          clear hc hr
          cases k1 : inB (nth xs 0) 0 (RowKit.wrap64 (long - 1))
          all_goals
            go_wp2_with
              (first
                | (go_at_call 33; go_call (within_c _ _ _ _); rintro e w' ⟨rfl, rfl⟩))
            first
              | (go_round
                 case rel => exact ⟨0 + 1, by omega, by go_num⟩
                 case measure => simp [intOf]; omega)
              | (go_ret
                 exact ⟨by rw [HM.out]; rfl, rfl⟩)
        · have c0 := hc j (by omega)
          have c1' : w.cell? ⟨b, off + j + 1, none⟩ = some (.int .i64 (nth xs (j + 1))) := by rw [Nat.add_assoc]; exact c1
          clear hc hr
          cases k1 : inB (nth xs (j + 1)) 0 (RowKit.wrap64 (long - 1)) <;> cases k2 : decide (nth xs (j + 1) ≤ nth xs j)
          all_goals
            go_wp2_with
              (first
                | (go_at_call 33; go_call (within_c _ _ _ _); rintro e w' ⟨rfl, rfl⟩))
            first
              | (go_round
                 case rel => exact ⟨j + 1 + 1, by omega, by go_num⟩
                 case measure => simp [intOf]; omega)
              | (go_ret
                 exact ⟨by rw [HM.out]; rfl, rfl⟩)
      ·
        go_wp2_with
          (first
            | (go_at_call 33; go_call (within_c _ _ _ _); rintro e w' ⟨rfl, rfl⟩))
        go_ret
        exact ⟨by rw [HM.out]; rfl, rfl⟩
  · obtain ⟨l0, l1⟩ := inB_true hl
    have HM := Lib.hid (show marksB xs long = (decide ((xs.length : Int) ≤ 12) && risesB xs 0 (long - 1)) by simp [marksB, hl])
    go_enter Try.func32, Try.ntmps32
    go_wp2
    go_loop [9] (fun v => ∃ k : Nat, k ≤ xs.length ∧ v = .int .i64 k ∧ Hid (riseTo xs 0 (long - 1) k = true)) (fun v => xs.length - (intOf v).toNat)
    case atStart => exact ⟨0, by omega, rfl, Lib.hid rfl⟩
    case round =>
      obtain ⟨k, hk, rfl, HK⟩ := hrel
      by_cases hlt : k < xs.length
      · obtain ⟨b, off, rfl, hb, hc⟩ := hr (by omega)
        have c1 := hc k hlt
        rcases k with _ | j
        · have c1' : w.cell? ⟨b, off, none⟩ = some (.int .i64 (nth xs 0)) := c1
          clear hc hr
          cases k1 : inB (nth xs 0) 0 (long - 1)
          · have HF := Lib.hid (riseTo_false (show stepB xs 0 (long - 1) 0 = false from k1) xs.length hlt)
            go_wp2_with
              (first
                | (go_at_call 33; go_call (within_c _ _ _ _); rintro e w' ⟨rfl, rfl⟩))
            go_ret
            exact ⟨by rw [HM.out, show risesB xs 0 (long - 1) = false from HF.out]; simp, rfl⟩
          · have HN := Lib.hid (show riseTo xs 0 (long - 1) (0 + 1) = true by rw [riseTo, HK.out, show stepB xs 0 (long - 1) 0 = true from k1]; rfl)
            go_wp2_with
              (first
                | (go_at_call 33; go_call (within_c _ _ _ _); rintro e w' ⟨rfl, rfl⟩))
            go_round
            case rel => exact ⟨0 + 1, by omega, by go_num, HN⟩
            case measure => simp [intOf]; omega
        · have c0 := hc j (by omega)
          have c1' : w.cell? ⟨b, off + j + 1, none⟩ = some (.int .i64 (nth xs (j + 1))) := by rw [Nat.add_assoc]; exact c1
          clear hc hr
          cases k1 : inB (nth xs (j + 1)) 0 (long - 1)
          · have HF := Lib.hid (riseTo_false (show stepB xs 0 (long - 1) (j + 1) = false by rw [stepB, k1]; rfl) xs.length hlt)
            go_wp2_with
              (first
                | (go_at_call 33; go_call (within_c _ _ _ _); rintro e w' ⟨rfl, rfl⟩))
            go_ret
            exact ⟨by rw [HM.out, show risesB xs 0 (long - 1) = false from HF.out]; simp, rfl⟩
          · cases k2 : decide (nth xs (j + 1) ≤ nth xs j)
            · have HN := Lib.hid (show riseTo xs 0 (long - 1) (j + 1 + 1) = true by rw [riseTo, HK.out, stepB, k1, k2]; rfl)
              go_wp2_with
                (first
                  | (go_at_call 33; go_call (within_c _ _ _ _); rintro e w' ⟨rfl, rfl⟩))
              go_round
              case rel => exact ⟨j + 1 + 1, by omega, by go_num, HN⟩
              case measure => simp [intOf]; omega
            · have HF := Lib.hid (riseTo_false (show stepB xs 0 (long - 1) (j + 1) = false by rw [stepB, k1, k2]; rfl) xs.length hlt)
              go_wp2_with
                (first
                  | (go_at_call 33; go_call (within_c _ _ _ _); rintro e w' ⟨rfl, rfl⟩))
              go_ret
              exact ⟨by rw [HM.out, show risesB xs 0 (long - 1) = false from HF.out]; simp, rfl⟩
      · obtain rfl : k = xs.length := by omega
        go_wp2_with
          (first
            | (go_at_call 33; go_call (within_c _ _ _ _); rintro e w' ⟨rfl, rfl⟩))
        all_goals
          go_ret
          exact ⟨by rw [HM.out, show risesB xs 0 (long - 1) = true from HK.out]; simp; try omega, rfl⟩
theorem l06Marks_c (A : Option Addr) (c : Nat) (xs : List Int) (long : Int) (hn : xs.length ≤ 1048576) (w : World) (hr : RowI w A xs) : Calls Try.prog 29 #[.slice A xs.length c, .int .i64 long] w fun e w' => e = .returned (.bool (marksB xs long)) ∧ ∃ n, w' = w.drewN n := by
  have HR := Lib.hid (fun (hl : inB long 1 4000000 = true) => l00Rises_c A c xs 0 (long - 1) hn w hr)
  cases hl : inB long 1 4000000
  · have HM := Lib.hid (show marksB xs long = false by simp [marksB, hl])
    go_enter Try.func29, Try.ntmps29
    go_wp2_with
      (first
        | (go_at_call 30; go_call (l00In_c _ _ _ _); rintro e w' ⟨rfl, rfl⟩))
    go_ret
    exact ⟨by rw [HM.out]; rfl, (by first | exact ⟨_, rfl⟩ | exact ⟨_, World.drewN_drewN _ _ _⟩ | exact ⟨0, rfl⟩)⟩
  · obtain ⟨l0, l1⟩ := inB_true hl
    by_cases hlen : (xs.length : Int) ≤ 12
    · have HM := Lib.hid (show marksB xs long = risesB xs 0 (long - 1) by simp [marksB, hl, hlen])
      go_enter Try.func29, Try.ntmps29
      go_wp2_with
        (first
          | (go_at_call 30; go_call (l00In_c _ _ _ _); rintro e w' ⟨rfl, rfl⟩)
          | (go_at_call 62; (refine (HR.out hl).mono ?_); rintro e w' ⟨rfl, nq, rfl⟩))
      go_ret
      exact ⟨by rw [HM.out]; rfl, (by first | exact ⟨_, rfl⟩ | exact ⟨_, World.drewN_drewN _ _ _⟩ | exact ⟨0, rfl⟩)⟩
    · have HM := Lib.hid (show marksB xs long = false by simp [marksB, hl, hlen])
      go_enter Try.func29, Try.ntmps29
      go_wp2_with
        (first
          | (go_at_call 30; go_call (l00In_c _ _ _ _); rintro e w' ⟨rfl, rfl⟩))
      go_ret
      exact ⟨by rw [HM.out]; rfl, (by first | exact ⟨_, rfl⟩ | exact ⟨_, World.drewN_drewN _ _ _⟩ | exact ⟨0, rfl⟩)⟩
end Go.Proofs.Yteddchnmjppdeaa
