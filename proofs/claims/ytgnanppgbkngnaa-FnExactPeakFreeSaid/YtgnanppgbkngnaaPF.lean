/- PeakFree. -/
import Derived.Test.YtgnanppgbkngnaaM3
import Derived.Test.YtgnanppgbkngnaaWI
namespace Go.Proofs.Ytgnanppgbkngnaa
open Go.ChangeShapes Go.WideShapes Go.ChangeAt Go.RowKit
set_option linter.unusedVariables false
set_option linter.unusedSimpArgs false

def negI (n : Int) : Bool := decide (n < 0)
/-- What comes in at second k. -/
def pkIn (xs : List Int) (k : Nat) : Int := if k < xs.length then nth xs k else 0
/-- What is left after k seconds. -/
def pkL (xs : List Int) (m : Int) : Nat → Int
  | 0 => 0
  | k + 1 => pkL xs m k + pkIn xs k - min (pkL xs m k + pkIn xs k) m
def pkO (xs : List Int) (m : Int) : Nat → List Int
  | 0 => []
  | k + 1 => pkO xs m k ++ [min (pkL xs m k + pkIn xs k) m]
theorem pkO_len (xs : List Int) (m : Int) : ∀ k, (pkO xs m k).length = k
  | 0 => rfl
  | k + 1 => by rw [pkO, List.length_append, pkO_len xs m k]; rfl
theorem pkL_bd {xs : List Int} {m : Int} (hm : 1 ≤ m) (h : ∀ k, k < xs.length → 0 ≤ nth xs k ∧ nth xs k ≤ 1000000) : ∀ k, 0 ≤ pkL xs m k ∧ pkL xs m k ≤ (k : Int) * 1000000
  | 0 => by simp [pkL]
  | k + 1 => by
    have ih := pkL_bd hm h k
    have hi : 0 ≤ pkIn xs k ∧ pkIn xs k ≤ 1000000 := by
      unfold pkIn
      split
      · exact h k (by assumption)
      · omega
    rw [pkL]
    omega
def pkRun (xs : List Int) (m : Int) : Nat → Nat → List Int × Int
  | 0, _ => ([], 5)
  | q + 1, k => if (k < xs.length ∨ 0 < pkL xs m k) then (if 60 ≤ k then ([], 5) else pkRun xs m q (k + 1)) else (pkO xs m k, 0)
theorem pkRun_go {xs : List Int} {m : Int} {q k : Nat} (h : k < xs.length ∨ 0 < pkL xs m k) (h6 : k < 60) : pkRun xs m (q + 1) k = pkRun xs m q (k + 1) := by rw [pkRun, if_pos h, if_neg (by omega)]
theorem pkRun_full {xs : List Int} {m : Int} {q k : Nat} (h : k < xs.length ∨ 0 < pkL xs m k) (h6 : 60 ≤ k) : pkRun xs m (q + 1) k = ([], 5) := by rw [pkRun, if_pos h, if_pos h6]
theorem pkRun_end {xs : List Int} {m : Int} {q k : Nat} (h : ¬ k < xs.length) (h' : ¬ 0 < pkL xs m k) : pkRun xs m (q + 1) k = (pkO xs m k, 0) := by rw [pkRun, if_neg (by omega)]
theorem pkRun_len (xs : List Int) (m : Int) : ∀ q k, k ≤ 60 → (pkRun xs m q k).1.length ≤ 60
  | 0, _, _ => by simp [pkRun]
  | q + 1, k, hk => by
    rw [pkRun]
    split
    · split
      · simp
      · exact pkRun_len xs m q (k + 1) (by omega)
    · rw [pkO_len]; exact hk
def fPeak (xs : List Int) (m : Int) : List Int × Int := if foB xs then (if inB m 1 1000000 then (if xs.any negI then ([], 2) else pkRun xs m 61 0) else ([], 2)) else ([], 2)
theorem fPeak_len (xs : List Int) (m : Int) : (fPeak xs m).1.length ≤ 60 := by
  unfold fPeak
  split
  · split
    · split
      · simp
      · exact pkRun_len xs m 61 0 (by omega)
    · simp
  · simp
theorem peakFree1_c (n : Int) (w : World) : Calls Try.prog 62 #[.int .i64 n] w fun e w' => e = .returned (.bool (negI n)) ∧ w = w' := by
  go_enter Try.func62, Try.ntmps62
  go_wp2
  go_ret
  simp [negI]
theorem indexFuncNeg_c (A : Option Addr) (c : Nat) (xs : List Int) (hn : xs.length ≤ 1048576) (w : World) (hr : RowI w A xs) : Calls Try.prog 89 #[.slice A xs.length c, .func (.func 62) #[] #[]] w (IdxPost (xs.any negI) w) := by
  go_enter Try.func89, Try.ntmps89
  go_wp2
  go_loop [8] (fun v => ∃ k : Nat, k ≤ xs.length ∧ v = .int .i64 k ∧ Hid (∀ j, j < k → negI (nth xs j) = false)) (fun v => xs.length - (intOf v).toNat)
  case atStart => exact ⟨0, by omega, rfl, Lib.hid (fun j hj => by omega)⟩
  case round =>
    obtain ⟨k, hk, rfl, HK⟩ := hrel
    by_cases hlt : k < xs.length
    · obtain ⟨b, off, rfl, hb, hc⟩ := hr.at_ hlt
      cases hp : negI (nth xs k)
      · have HN := Lib.hid (show ∀ j, j < k + 1 → negI (nth xs j) = false from fun j hj => by
          rcases Nat.lt_or_ge j k with h1 | h1
          · exact HK.out j h1
          · obtain rfl : j = k := by omega
            exact hp)
        go_wp2_with (go_at_call 62; go_call (peakFree1_c _ _); rintro e w' ⟨rfl, rfl⟩)
        go_round
        case rel => exact ⟨k + 1, by omega, by go_num, HN⟩
        case measure => simp [intOf]; omega
      · have HA := Lib.hid (any_of hlt hp)
        go_wp2_with (go_at_call 62; go_call (peakFree1_c _ _); rintro e w' ⟨rfl, rfl⟩)
        go_ret
        exact ⟨k, rfl, by rw [HA.out]; simp, rfl⟩
    · obtain rfl : k = xs.length := by omega
      have HA := Lib.hid (any_none HK.out)
      go_wp2
      go_ret
      exact ⟨-1, rfl, by rw [HA.out]; simp, rfl⟩
theorem containsFuncNeg_c (A : Option Addr) (c : Nat) (xs : List Int) (hn : xs.length ≤ 1048576) (w : World) (hr : RowI w A xs) : Calls Try.prog 61 #[.slice A xs.length c, .func (.func 62) #[] #[]] w fun e w' => e = .returned (.bool (xs.any negI)) ∧ w = w' := by
  have HC := Lib.hid (indexFuncNeg_c A c xs hn w hr)
  generalize xs.any negI = b at *
  go_enter Try.func61, Try.ntmps61
  go_wp2_with (go_at_call 89; (refine HC.out.mono ?_); rintro e w' ⟨r, rfl, hr, rfl⟩)
  go_ret
  exact ⟨by simp [hr], rfl⟩
set_option maxHeartbeats 2000000 in
theorem implPeakFree_c (A : Option Addr) (nA cA : Nat) (zA : List Int) (x : Int) (hzA : zA.length = nA) (hnA : nA ≤ 1048576) (w : World) (hr : RowI w A zA) : Calls Try.prog 24 #[.slice A nA cA, .int .i64 x] w fun e w' => ∃ v, e = .returned (.tuple #[v, .int .i64 (fPeak zA x).2]) ∧ OwnI 2 w' w.heap.size v (fPeak zA x).1 ∧ Below w.heap.size w w' := by
  subst hzA
  have BAD : ∀ {e : Ending}, e = .returned (.tuple #[.slice none 0 0, .int .i64 2]) → (fPeak zA x = ([], 2)) → ∃ v, e = .returned (.tuple #[v, .int .i64 (fPeak zA x).2]) ∧ OwnI 2 w w.heap.size v (fPeak zA x).1 ∧ Below w.heap.size w w := by
    intro e he hf
    rw [hf]
    exact ⟨_, he, OwnI.nil _ _ _, Below.refl _ _⟩
  cases hf : foB zA
  · have HF := Lib.hid (show fPeak zA x = ([], 2) by simp [fPeak, hf])
    clear BAD
    go_enter Try.func24, Try.ntmps24
    go_wp2_with (go_at_call 60; (refine (areForces_c _ _ zA hnA _ hr).mono ?_); rintro e w1 ⟨rfl, rfl⟩)
    go_returns
    exact ⟨_, by (rw [HF.out]) <;> rfl, by rw [HF.out]; exact OwnI.nil _ _ _, Below.refl _ _⟩
  cases hx : inB x 1 1000000
  · have HF := Lib.hid (show fPeak zA x = ([], 2) by simp [fPeak, hf, hx])
    clear BAD
    go_enter Try.func24, Try.ntmps24
    go_wp2_with (first | (go_at_call 60; (refine (areForces_c _ _ zA hnA _ hr).mono ?_); rintro e w1 ⟨rfl, rfl⟩) | (go_at_call 48; go_call (within_c _ _ _ _); rintro e w' ⟨rfl, rfl⟩))
    go_returns
    exact ⟨_, by (rw [HF.out]) <;> rfl, by rw [HF.out]; exact OwnI.nil _ _ _, Below.refl _ _⟩
  clear BAD
  cases hg : zA.any negI
  case true =>
    have HF := Lib.hid (show fPeak zA x = ([], 2) by simp [fPeak, hf, hx, hg])
    have HC := Lib.hid (containsFuncNeg_c A cA zA hnA w hr)
    rw [hg] at HC
    go_enter Try.func24, Try.ntmps24
    go_wp2_with (first | (go_at_call 60; (refine (areForces_c _ _ zA hnA _ hr).mono ?_); rintro e w1 ⟨rfl, rfl⟩) | (go_at_call 48; go_call (within_c _ _ _ _); rintro e w' ⟨rfl, rfl⟩) | (go_at_call 61; (refine HC.out.mono ?_); rintro e w' ⟨rfl, rfl⟩))
    go_returns
    exact ⟨_, by (rw [HF.out]) <;> rfl, by rw [HF.out]; exact OwnI.nil _ _ _, Below.refl _ _⟩
  obtain ⟨x0, x1⟩ := inB_true hx
  obtain ⟨n60, hall⟩ := foB_true hf
  have hv : ∀ k, k < zA.length → 0 ≤ nth zA k ∧ nth zA k ≤ 1000000 := fun k hk => ⟨by
    have := List.any_eq_false.1 hg _ (nth_mem hk)
    simpa [negI] using this, (hall k hk).2⟩
  have HL := Lib.hid (pkL_bd x0 hv)
  have HV := Lib.hid hv
  obtain ⟨R, hR⟩ : ∃ R, pkRun zA x 61 0 = R := ⟨_, rfl⟩
  have HF := Lib.hid (show fPeak zA x = R by rw [← hR]; simp [fPeak, hf, hx, hg])
  have HR := Lib.hid hR
  clear hR
  clear hall hv
  have HC := Lib.hid (containsFuncNeg_c A cA zA hnA w hr)
  rw [hg] at HC
  go_enter Try.func24, Try.ntmps24
  go_wp2_with (first | (go_at_call 60; (refine (areForces_c _ _ zA hnA _ hr).mono ?_); rintro e w1 ⟨rfl, rfl⟩) | (go_at_call 48; go_call (within_c _ _ _ _); rintro e w' ⟨rfl, rfl⟩) | (go_at_call 61; (refine HC.out.mono ?_); rintro e w' ⟨rfl, rfl⟩))
  go_loopw [6, 7, 8] (fun v l i wr => ∃ q k : Nat, k + q = 61 ∧ k ≤ 60 ∧ i = .int .i64 k ∧ l = .int .i64 (pkL zA x k) ∧ Hid (pkRun zA x q k = R) ∧ Hid (OwnI 2 wr w.heap.size v (pkO zA x k)) ∧ Below w.heap.size w wr) (fun _ _ i _ => 61 - (intOf i).toNat)
  case atStart => exact ⟨61, 0, rfl, by omega, rfl, rfl, HR, Lib.hid (OwnI.nil _ _ _), Below.refl _ _⟩
  case round =>
    obtain ⟨q, k, hq, hk, rfl, rfl, HQ, HO, hBr⟩ := hrel
    have hsr := hBr.size
    have hkl := pkO_len zA x k
    obtain ⟨l0, l1⟩ := HL.out k
    obtain ⟨q, rfl⟩ : ∃ q', q = q' + 1 := ⟨q - 1, by omega⟩
    have k64 : (k : Int) * 1000000 ≤ 60000000 := by omega
    obtain ⟨A', c', hv, _⟩ := HO.out.slice
    rw [hkl] at hv
    subst hv
    by_cases hlt : k < zA.length
    · obtain ⟨b, off, rfl, hbb, c1⟩ := (hr.below hBr).at_ hlt
      obtain ⟨v0, v1⟩ := HV.out k hlt
      have i1 : (k : Int) < zA.length := by omega
      have h6 : (k : Int) < 60 := by omega
      have h6' : ¬ (k : Int) = 60 := by omega
      have h6'' : ((k : Int) == 60) = false := by simp; omega
      have hin : pkIn zA k = nth zA k := by unfold pkIn; rw [if_pos hlt]
      have HN := Lib.hid ((pkRun_go (m := x) (q := q) (.inl hlt) (by omega)).symm.trans HQ.out)
      rcases Int.lt_or_le x (pkL zA x k + nth zA k) with hm | hm
      · skip
        have hmin : min (pkL zA x k + nth zA k) x = x := by omega
        have HP := Lib.hid (show pkL zA x (k + 1) = pkL zA x k + nth zA k - x by rw [pkL, hin, hmin])
        have HT := Lib.hid (show pkO zA x (k + 1) = pkO zA x k ++ [x] by rw [pkO, hin, hmin])
        go_wp2_with (first
          | (at_builtin; refine wpList_push rfl _ _ 31 rfl Try.underlying31 int64_info _ rfl HO.out rfl rfl (by omega) (by omega) ?_; intro v' w3 hO' hB'; have HO' := Lib.hid hO'; clear hO'))
        all_goals
          (try simp only [hmin] at HO')
          go_roundw
          case rel => exact ⟨q, k + 1, by omega, by omega, by go_num, by ((rw [HP.out]) <;> first | rfl | (simp only [hmin]; done) | (congr 1; omega)), HN, Lib.hid (by rw [HT.out]; exact HO'.out), hBr.trans hB'⟩
          case measure => simp [intOf]; omega
      · skip
        have hmin : min (pkL zA x k + nth zA k) x = (pkL zA x k + nth zA k) := by omega
        have HP := Lib.hid (show pkL zA x (k + 1) = pkL zA x k + nth zA k - (pkL zA x k + nth zA k) by rw [pkL, hin, hmin])
        have HT := Lib.hid (show pkO zA x (k + 1) = pkO zA x k ++ [(pkL zA x k + nth zA k)] by rw [pkO, hin, hmin])
        go_wp2_with (first
          | (at_builtin; refine wpList_push rfl _ _ 31 rfl Try.underlying31 int64_info _ rfl HO.out rfl rfl (by omega) (by omega) ?_; intro v' w3 hO' hB'; have HO' := Lib.hid hO'; clear hO'))
        all_goals
          (try simp only [hmin] at HO')
          go_roundw
          case rel => exact ⟨q, k + 1, by omega, by omega, by go_num, by ((rw [HP.out]) <;> first | rfl | (simp only [hmin]; done) | (congr 1; omega)), HN, Lib.hid (by rw [HT.out]; exact HO'.out), hBr.trans hB'⟩
          case measure => simp [intOf]; omega
    · have i1 : ¬ (k : Int) < zA.length := by omega
      have hin : pkL zA x k + pkIn zA k = pkL zA x k := by unfold pkIn; rw [if_neg hlt]; omega
      by_cases hpos : 0 < pkL zA x k
      · by_cases h6 : (k : Int) < 60
        · have h6' : ¬ (k : Int) = 60 := by omega
          have h6'' : ((k : Int) == 60) = false := by simp; omega
          have HN := Lib.hid ((pkRun_go (m := x) (q := q) (.inr hpos) (by omega)).symm.trans HQ.out)
          rcases Int.lt_or_le x (pkL zA x k) with hm | hm
          · skip
            have hmin : min (pkL zA x k) x = x := by omega
            have HP := Lib.hid (show pkL zA x (k + 1) = pkL zA x k - x by rw [pkL, hin, hmin])
            have HT := Lib.hid (show pkO zA x (k + 1) = pkO zA x k ++ [x] by rw [pkO, hin, hmin])
            go_wp2_with (first
              | (at_builtin; refine wpList_push rfl _ _ 31 rfl Try.underlying31 int64_info _ rfl HO.out rfl rfl (by omega) (by omega) ?_; intro v' w3 hO' hB'; have HO' := Lib.hid hO'; clear hO'))
            all_goals
              (try simp only [hmin] at HO')
              go_roundw
              case rel => exact ⟨q, k + 1, by omega, by omega, by go_num, by ((rw [HP.out]) <;> first | rfl | (simp only [hmin]; done) | (congr 1; omega)), HN, Lib.hid (by rw [HT.out]; exact HO'.out), hBr.trans hB'⟩
              case measure => simp [intOf]; omega
          · skip
            have hmin : min (pkL zA x k) x = pkL zA x k := by omega
            have HP := Lib.hid (show pkL zA x (k + 1) = pkL zA x k - pkL zA x k by rw [pkL, hin, hmin])
            have HT := Lib.hid (show pkO zA x (k + 1) = pkO zA x k ++ [pkL zA x k] by rw [pkO, hin, hmin])
            go_wp2_with (first
              | (at_builtin; refine wpList_push rfl _ _ 31 rfl Try.underlying31 int64_info _ rfl HO.out rfl rfl (by omega) (by omega) ?_; intro v' w3 hO' hB'; have HO' := Lib.hid hO'; clear hO'))
            all_goals
              (try simp only [hmin] at HO')
              go_roundw
              case rel => exact ⟨q, k + 1, by omega, by omega, by go_num, by ((rw [HP.out]) <;> first | rfl | (simp only [hmin]; done) | (congr 1; omega)), HN, Lib.hid (by rw [HT.out]; exact HO'.out), hBr.trans hB'⟩
              case measure => simp [intOf]; omega
        · have h6' : (k : Int) = 60 := by omega
          have h6'' : ((k : Int) == 60) = true := by simp; omega
          have HE := Lib.hid ((pkRun_full (m := x) (q := q) (.inr hpos) (by omega)).symm.trans HQ.out)
          go_wp2
          go_returns
          exact ⟨_, by (rw [HF.out, ← HE.out]) <;> rfl, by rw [HF.out, ← HE.out]; exact OwnI.nil _ _ _, hBr⟩
      · have HE := Lib.hid ((pkRun_end (m := x) (q := q) hlt hpos).symm.trans HQ.out)
        go_wp2
        go_returns
        exact ⟨_, by (rw [HF.out, ← HE.out]) <;> rfl, by rw [HF.out, ← HE.out]; exact HO.out, hBr⟩
set_option maxHeartbeats 2000000 in
theorem specPeakFree_c (A : Option Addr) (nA cA : Nat) (zA : List Int) (x : Int) (hzA : zA.length = nA) (hnA : nA ≤ 1048576) (w : World) (hr : RowI w A zA) : Calls Try.prog 22 #[.slice A nA cA, .int .i64 x] w fun e w' => ∃ v, e = .returned (.tuple #[v, .int .i64 (fPeak zA x).2]) ∧ OwnI 2 w' w.heap.size v (fPeak zA x).1 ∧ Below w.heap.size w w' := by
  subst hzA
  have BAD : ∀ {e : Ending}, e = .returned (.tuple #[.slice none 0 0, .int .i64 2]) → (fPeak zA x = ([], 2)) → ∃ v, e = .returned (.tuple #[v, .int .i64 (fPeak zA x).2]) ∧ OwnI 2 w w.heap.size v (fPeak zA x).1 ∧ Below w.heap.size w w := by
    intro e he hf
    rw [hf]
    exact ⟨_, he, OwnI.nil _ _ _, Below.refl _ _⟩
  cases hf : foB zA
  · have HF := Lib.hid (show fPeak zA x = ([], 2) by simp [fPeak, hf])
    clear BAD
    go_enter Try.func22, Try.ntmps22
    go_wp2_with (go_at_call 58; (refine (l10Forces_c _ _ zA hnA _ hr).mono ?_); rintro e w1 ⟨rfl, rfl⟩)
    go_returns
    exact ⟨_, by (rw [HF.out]) <;> rfl, by rw [HF.out]; exact OwnI.nil _ _ _, Below.refl _ _⟩
  cases hx : inB x 1 1000000
  · have HF := Lib.hid (show fPeak zA x = ([], 2) by simp [fPeak, hf, hx])
    clear BAD
    go_enter Try.func22, Try.ntmps22
    go_wp2_with (first | (go_at_call 58; (refine (l10Forces_c _ _ zA hnA _ hr).mono ?_); rintro e w1 ⟨rfl, rfl⟩) | (go_at_call 44; go_call (l00In_c _ _ _ _); rintro e w' ⟨rfl, rfl⟩))
    go_returns
    exact ⟨_, by (rw [HF.out]) <;> rfl, by rw [HF.out]; exact OwnI.nil _ _ _, Below.refl _ _⟩
  clear BAD
  cases hg : zA.any negI
  case true =>
    have HF := Lib.hid (show fPeak zA x = ([], 2) by simp [fPeak, hf, hx, hg])
    go_enter Try.func22, Try.ntmps22
    go_wp2_with (first | (go_at_call 58; (refine (l10Forces_c _ _ zA hnA _ hr).mono ?_); rintro e w1 ⟨rfl, rfl⟩) | (go_at_call 44; go_call (l00In_c _ _ _ _); rintro e w' ⟨rfl, rfl⟩))
    go_loop [6] (fun v => ∃ k : Nat, k ≤ zA.length ∧ v = .int .i64 k ∧ Hid (∀ j, j < k → negI (nth zA j) = false)) (fun v => zA.length - (intOf v).toNat)
    case atStart => exact ⟨0, by omega, rfl, Lib.hid (fun j hj => by omega)⟩
    case round =>
      obtain ⟨k, hk, rfl, HK⟩ := hrel
      by_cases hlt : k < zA.length
      · obtain ⟨b, off, rfl, hb, hc⟩ := hr.at_ hlt
        have i1 : (k : Int) < zA.length := by omega
        cases hp : negI (nth zA k)
        · have HN := Lib.hid (show ∀ j, j < k + 1 → negI (nth zA j) = false from fun j hj => by
            rcases Nat.lt_or_ge j k with h1 | h1
            · exact HK.out j h1
            · obtain rfl : j = k := by omega
              exact hp)
          simp only [negI, decide_eq_false_iff_not] at hp
          go_wp2
          go_round
          case rel => exact ⟨k + 1, by omega, by go_num, HN⟩
          case measure => simp [intOf]; omega
        · simp only [negI, decide_eq_true_eq] at hp
          go_wp2
          go_returns
          exact ⟨_, by (rw [HF.out]) <;> rfl, by rw [HF.out]; exact OwnI.nil _ _ _, Below.refl _ _⟩
      · obtain rfl : k = zA.length := by omega
        have := any_none HK.out
        rw [this] at hg
        cases hg
  obtain ⟨x0, x1⟩ := inB_true hx
  obtain ⟨n60, hall⟩ := foB_true hf
  have hv : ∀ k, k < zA.length → 0 ≤ nth zA k ∧ nth zA k ≤ 1000000 := fun k hk => ⟨by
    have := List.any_eq_false.1 hg _ (nth_mem hk)
    simpa [negI] using this, (hall k hk).2⟩
  have HL := Lib.hid (pkL_bd x0 hv)
  have HV := Lib.hid hv
  obtain ⟨R, hR⟩ : ∃ R, pkRun zA x 61 0 = R := ⟨_, rfl⟩
  have HF := Lib.hid (show fPeak zA x = R by rw [← hR]; simp [fPeak, hf, hx, hg])
  have HR := Lib.hid hR
  clear hR
  clear hall hv
  go_enter Try.func22, Try.ntmps22
  go_wp2_with (first | (go_at_call 58; (refine (l10Forces_c _ _ zA hnA _ hr).mono ?_); rintro e w1 ⟨rfl, rfl⟩) | (go_at_call 44; go_call (l00In_c _ _ _ _); rintro e w' ⟨rfl, rfl⟩))
  go_loop [6] (fun v => ∃ k : Nat, k ≤ zA.length ∧ v = .int .i64 k) (fun v => zA.length - (intOf v).toNat)
  case atStart => exact ⟨0, by omega, rfl⟩
  case round =>
    obtain ⟨k, hk, rfl⟩ := hrel
    by_cases hlt : k < zA.length
    · obtain ⟨b, off, rfl, hb, hc⟩ := hr.at_ hlt
      obtain ⟨v0, v1⟩ := HV.out k hlt
      have i1 : (k : Int) < zA.length := by omega
      have i2 : ¬ nth zA k < 0 := by omega
      go_wp2
      go_round
      case rel => exact ⟨k + 1, by omega, by go_num⟩
      case measure => simp [intOf]; omega
    have hkz : k = zA.length := by omega
    clear hlt hk
    subst hkz
    have i1 : ¬ (zA.length : Int) < zA.length := by omega
    go_wp2
    clear i1
    go_loopw [7, 8, 9] (fun v l i wr => ∃ q k : Nat, k + q = 61 ∧ k ≤ 60 ∧ i = .int .i64 k ∧ l = .int .i64 (pkL zA x k) ∧ Hid (pkRun zA x q k = R) ∧ Hid (OwnI 2 wr w.heap.size v (pkO zA x k)) ∧ Below w.heap.size w wr) (fun _ _ i _ => 61 - (intOf i).toNat)
    case atStart => exact ⟨61, 0, rfl, by omega, rfl, rfl, HR, Lib.hid (OwnI.lit _ _ _ (Nat.le_refl _)), (Below.refl _ _).alloc (Nat.le_refl _) _⟩
    case round =>
      obtain ⟨q, k, hq, hk, rfl, rfl, HQ, HO, hBr⟩ := hrel
      have hsr := hBr.size
      have hkl := pkO_len zA x k
      obtain ⟨l0, l1⟩ := HL.out k
      obtain ⟨q, rfl⟩ : ∃ q', q = q' + 1 := ⟨q - 1, by omega⟩
      have k64 : (k : Int) * 1000000 ≤ 60000000 := by omega
      obtain ⟨A', c', hv, _⟩ := HO.out.slice
      rw [hkl] at hv
      subst hv
      by_cases hlt : k < zA.length
      · obtain ⟨b, off, rfl, hbb, c1⟩ := (hr.below hBr).at_ hlt
        obtain ⟨v0, v1⟩ := HV.out k hlt
        have i1 : (k : Int) < zA.length := by omega
        have h6 : (k : Int) < 60 := by omega
        have h6' : ¬ (k : Int) = 60 := by omega
        have h6'' : ((k : Int) == 60) = false := by simp; omega
        have hin : pkIn zA k = nth zA k := by unfold pkIn; rw [if_pos hlt]
        have HN := Lib.hid ((pkRun_go (m := x) (q := q) (.inl hlt) (by omega)).symm.trans HQ.out)
        rcases Int.lt_or_le x (pkL zA x k + nth zA k) with hm | hm
        · skip
          have hmin : min (pkL zA x k + nth zA k) x = x := by omega
          have HP := Lib.hid (show pkL zA x (k + 1) = pkL zA x k + nth zA k - x by rw [pkL, hin, hmin])
          have HT := Lib.hid (show pkO zA x (k + 1) = pkO zA x k ++ [x] by rw [pkO, hin, hmin])
          go_wp2_with (first
            | (at_builtin; refine wpList_push rfl _ _ 31 rfl Try.underlying31 int64_info _ rfl HO.out rfl rfl (by omega) (by omega) ?_; intro v' w3 hO' hB'; have HO' := Lib.hid hO'; clear hO')
            | (go_at_call 59; go_call (l00Min_c _ _ _); rintro e w' ⟨rfl, rfl⟩))
          all_goals
            (try simp only [hmin] at HO')
            go_roundw
            case rel => exact ⟨q, k + 1, by omega, by omega, by go_num, by ((rw [HP.out]) <;> first | rfl | (simp only [hmin]; done) | (congr 1; omega)), HN, Lib.hid (by rw [HT.out]; exact HO'.out), hBr.trans hB'⟩
            case measure => simp [intOf]; omega
        · skip
          have hmin : min (pkL zA x k + nth zA k) x = (pkL zA x k + nth zA k) := by omega
          have HP := Lib.hid (show pkL zA x (k + 1) = pkL zA x k + nth zA k - (pkL zA x k + nth zA k) by rw [pkL, hin, hmin])
          have HT := Lib.hid (show pkO zA x (k + 1) = pkO zA x k ++ [(pkL zA x k + nth zA k)] by rw [pkO, hin, hmin])
          go_wp2_with (first
            | (at_builtin; refine wpList_push rfl _ _ 31 rfl Try.underlying31 int64_info _ rfl HO.out rfl rfl (by omega) (by omega) ?_; intro v' w3 hO' hB'; have HO' := Lib.hid hO'; clear hO')
            | (go_at_call 59; go_call (l00Min_c _ _ _); rintro e w' ⟨rfl, rfl⟩))
          all_goals
            (try simp only [hmin] at HO')
            go_roundw
            case rel => exact ⟨q, k + 1, by omega, by omega, by go_num, by ((rw [HP.out]) <;> first | rfl | (simp only [hmin]; done) | (congr 1; omega)), HN, Lib.hid (by rw [HT.out]; exact HO'.out), hBr.trans hB'⟩
            case measure => simp [intOf]; omega
      · have i1 : ¬ (k : Int) < zA.length := by omega
        have hin : pkL zA x k + pkIn zA k = pkL zA x k := by unfold pkIn; rw [if_neg hlt]; omega
        by_cases hpos : 0 < pkL zA x k
        · by_cases h6 : (k : Int) < 60
          · have h6' : ¬ (k : Int) = 60 := by omega
            have h6'' : ((k : Int) == 60) = false := by simp; omega
            have HN := Lib.hid ((pkRun_go (m := x) (q := q) (.inr hpos) (by omega)).symm.trans HQ.out)
            rcases Int.lt_or_le x (pkL zA x k) with hm | hm
            · skip
              have hmin : min (pkL zA x k) x = x := by omega
              have HP := Lib.hid (show pkL zA x (k + 1) = pkL zA x k - x by rw [pkL, hin, hmin])
              have HT := Lib.hid (show pkO zA x (k + 1) = pkO zA x k ++ [x] by rw [pkO, hin, hmin])
              go_wp2_with (first
                | (at_builtin; refine wpList_push rfl _ _ 31 rfl Try.underlying31 int64_info _ rfl HO.out rfl rfl (by omega) (by omega) ?_; intro v' w3 hO' hB'; have HO' := Lib.hid hO'; clear hO')
                | (go_at_call 59; go_call (l00Min_c _ _ _); rintro e w' ⟨rfl, rfl⟩))
              all_goals
                (try simp only [hmin] at HO')
                go_roundw
                case rel => exact ⟨q, k + 1, by omega, by omega, by go_num, by ((rw [HP.out]) <;> first | rfl | (simp only [hmin]; done) | (congr 1; omega)), HN, Lib.hid (by rw [HT.out]; exact HO'.out), hBr.trans hB'⟩
                case measure => simp [intOf]; omega
            · skip
              have hmin : min (pkL zA x k) x = pkL zA x k := by omega
              have HP := Lib.hid (show pkL zA x (k + 1) = pkL zA x k - pkL zA x k by rw [pkL, hin, hmin])
              have HT := Lib.hid (show pkO zA x (k + 1) = pkO zA x k ++ [pkL zA x k] by rw [pkO, hin, hmin])
              go_wp2_with (first
                | (at_builtin; refine wpList_push rfl _ _ 31 rfl Try.underlying31 int64_info _ rfl HO.out rfl rfl (by omega) (by omega) ?_; intro v' w3 hO' hB'; have HO' := Lib.hid hO'; clear hO')
                | (go_at_call 59; go_call (l00Min_c _ _ _); rintro e w' ⟨rfl, rfl⟩))
              all_goals
                (try simp only [hmin] at HO')
                go_roundw
                case rel => exact ⟨q, k + 1, by omega, by omega, by go_num, by ((rw [HP.out]) <;> first | rfl | (simp only [hmin]; done) | (congr 1; omega)), HN, Lib.hid (by rw [HT.out]; exact HO'.out), hBr.trans hB'⟩
                case measure => simp [intOf]; omega
          · have h6' : (k : Int) = 60 := by omega
            have h6'' : ((k : Int) == 60) = true := by simp; omega
            have HE := Lib.hid ((pkRun_full (m := x) (q := q) (.inr hpos) (by omega)).symm.trans HQ.out)
            go_wp2
            go_returns
            exact ⟨_, by (rw [HF.out, ← HE.out]) <;> rfl, by rw [HF.out, ← HE.out]; exact OwnI.nil _ _ _, hBr⟩
        · have HE := Lib.hid ((pkRun_end (m := x) (q := q) hlt hpos).symm.trans HQ.out)
          go_wp2
          go_returns
          exact ⟨_, by (rw [HF.out, ← HE.out]) <;> rfl, by rw [HF.out, ← HE.out]; exact HO.out, hBr⟩
set_option maxHeartbeats 4000000 in
theorem walk_FnExactPeakFree (A : Option Addr) (nA cA : Nat) (zA : List Int) (x : Int) (w : World) (hA : IntArg w A nA zA) (_ : I64 x) : Calls Try.prog 6 #[.slice A nA cA, .int .i64 x] w fun e w' => e = .returned (.bool true) ∧ Below w.heap.size w w' := by
  obtain ⟨hzA, hxA, hrA, _⟩ := hA
  replace hzA : zA.length = nA := by omega
  by_cases hnA : nA ≤ 1048576
  case neg =>
    have hb : ¬ (nA : Int) ≤ 1048576 := by omega
    go_enter Try.func6, Try.ntmps6
    go_wp2
    go_returns
    refine ⟨by simp, ?_⟩
    exact Below.refl _ _
  have hnI : (nA : Int) ≤ 1048576 := by omega
  have hl := fPeak_len zA x
  obtain ⟨xs, hx⟩ : ∃ xs, (fPeak zA x).1 = xs := ⟨_, rfl⟩
  obtain ⟨q, hq⟩ : ∃ q, (fPeak zA x).2 = q := ⟨_, rfl⟩
  have hs := fun (w : World) (B : Option Addr) (hB : RowI w B zA) => specPeakFree_c B nA nA zA x hzA hnA w hB
  have hi := fun (w : World) (B : Option Addr) (hB : RowI w B zA) => implPeakFree_c B nA nA zA x hzA hnA w hB
  simp only [hx, hq] at hs hi hl
  have HS := Lib.hid (fun (w : World) {B : Option Addr} hB => hs w B hB)
  have HI := Lib.hid (fun (w : World) {B : Option Addr} hB => hi w B hB)
  clear hs hi hx hq
  have hn : xs.length ≤ 1048576 := by omega
  go_enter Try.func6, Try.ntmps6
  go_wp2_with (go_at_call 23; (refine (toInt64S_m A nA _ zA hzA hnA _ hrA).mono ?_); rintro e w1 ⟨rfl, hSA, _, hb1⟩; have z1 : w.heap.size ≤ w1.heap.size := hb1.size; have ch1_w : Below w.heap.size w w1 := hb1)
  go_wp2_with (go_at_call 22; (refine (HS.out _ hSA).mono ?_); rintro e w2 ⟨v0, rfl, hO0, hb2⟩; obtain ⟨A0, c0, rfl, hV0⟩ := hO0.slice; have z2 : w1.heap.size ≤ w2.heap.size := hb2.size; have ch2_w : Below w.heap.size w w2 := ch1_w.trans ((hb2).mono (by omega)); have ch2_w1 : Below w1.heap.size w1 w2 := hb2)
  go_wp2_with (go_at_call 23; (refine (toInt64S_m A nA _ zA hzA hnA _ (hrA.below ch2_w)).mono ?_); rintro e w3 ⟨rfl, hXA, hMA, hb3⟩; have z3 : w2.heap.size ≤ w3.heap.size := hb3.size; have zl3 : w2.heap.size < w3.heap.size := hMA.1; have HMA := Lib.hid hMA; clear hMA; have ch3_w : Below w.heap.size w w3 := ch2_w.trans ((hb3).mono (by omega)); have ch3_w2 : Below w2.heap.size w2 w3 := hb3)
  go_wp2_with (go_at_call 24; (refine (HI.out _ hXA).mono ?_); rintro e w4 ⟨v1, rfl, hO1, hb4⟩; obtain ⟨A1, c1, rfl, hG⟩ := hO1.slice; have z4 : w3.heap.size ≤ w4.heap.size := hb4.size; have HO1 := Lib.hid hO1; clear hO1; have ch4_w : Below w.heap.size w w4 := ch3_w.trans ((hb4).mono (by omega)); have ch4_w2 : Below w2.heap.size w2 w4 := ch3_w2.trans ((hb4).mono (by omega)); have ch4_w3 : Below w3.heap.size w3 w4 := hb4)
  go_wp2_with (go_at_call 25; (refine (eqInt64S_c _ _ _ _ xs hn _ hG (hV0.below ch4_w2)).mono ?_); rintro e wq ⟨rfl, n1, rfl⟩; have ch5_w : Below w.heap.size w (w4.drewN n1) := bdrewN ch4_w n1; have ch5_w2 : Below w2.heap.size w2 (w4.drewN n1) := bdrewN ch4_w2 n1; have ch5_w3 : Below w3.heap.size w3 (w4.drewN n1) := bdrewN ch4_w3 n1; have ch5_w4 : Below w4.heap.size w4 (w4.drewN n1) := bdrewN (Below.refl _ _) n1)
  have zq : ((w4.drewN n1)).heap.size = w4.heap.size := rfl
  go_wp2_with (go_at_call 23; (refine (toInt64S_m A nA _ zA hzA hnA _ (hrA.below ch5_w)).mono ?_); rintro e w5 ⟨rfl, hYA, _, hb5⟩; have z5 : (w4.drewN n1).heap.size ≤ w5.heap.size := hb5.size; have ch6_w : Below w.heap.size w w5 := ch5_w.trans ((hb5).mono (by omega)); have ch6_w2 : Below w2.heap.size w2 w5 := ch5_w2.trans ((hb5).mono (by omega)); have ch6_w3 : Below w3.heap.size w3 w5 := ch5_w3.trans ((hb5).mono (by omega)); have ch6_w4 : Below w4.heap.size w4 w5 := ch5_w4.trans ((hb5).mono (by omega)))
  go_wp2_with (go_at_call 25; (refine (eqInt64S_d _ _ nA _ _ zA hzA hnA _ (hXA.below ch6_w3) hYA).mono ?_); rintro e w6 ⟨rfl, hb6⟩; have z6 : w5.heap.size ≤ w6.heap.size := hb6.size; have ch7_w : Below w.heap.size w w6 := ch6_w.trans ((hb6).mono (by omega)); have ch7_w2 : Below w2.heap.size w2 w6 := ch6_w2.trans ((hb6).mono (by omega)); have ch7_w3 : Below w3.heap.size w3 w6 := ch6_w3.trans ((hb6).mono (by omega)); have ch7_w4 : Below w4.heap.size w4 w6 := ch6_w4.trans ((hb6).mono (by omega)))
  go_wp2_with (go_at_call 26; (refine (markInt64G_c _ nA _ (1) (by omega) (by omega) hnA _ (HMA.out.below ch7_w3)).mono ?_); rintro e w7 ⟨rfl, hg7⟩; have z7 : w6.heap.size ≤ w7.heap.size := hg7.size; have HG0 := Lib.hid (OwnI.kept (HO1.out.below ch7_w4) hg7 (by omega)); have ch8_w : Below w.heap.size w w7 := below_grown ch7_w hg7 (by omega) (by omega); have ch8_w2 : Below w2.heap.size w2 w7 := below_grown ch7_w2 hg7 (by omega) (by omega))
  go_wp2_with (go_at_call 25; (refine (eqInt64S_c _ _ _ _ xs hn _ (HG0.out).row.2 (hV0.below ch8_w2)).mono ?_); rintro e wq ⟨rfl, n2, rfl⟩; have ch9_w : Below w.heap.size w (w7.drewN n2) := bdrewN ch8_w n2; have ch9_w2 : Below w2.heap.size w2 (w7.drewN n2) := bdrewN ch8_w2 n2)
  go_wp2_with (go_at_call 26; (refine (markInt64S_c _ xs 1 w3.heap.size (by omega) (by omega) hn _ (OwnI.drewN (HG0.out) _)).mono ?_); rintro e w8 ⟨rfl, ys, hy, hm, hO6, hb8⟩; have HM := Lib.hid (show Marked 1 ys ys.length from by rw [hy]; exact hm); have HR := Lib.hid hO6.row.2; clear hm hO6; have z8 : w7.heap.size ≤ w8.heap.size := hb8.size; have ch10_w : Below w.heap.size w w8 := ch9_w.trans ((hb8).mono (by omega)); have ch10_w2 : Below w2.heap.size w2 w8 := ch9_w2.trans ((hb8).mono (by omega)))
  have hyn : ys.length ≤ 1048576 := by omega
  go_wp2_with (go_at_call 27; (refine (heldInt64S_c A1 xs.length _ ys 1 hy (by omega) (by omega) hyn HM.out _ (HR.out)).mono ?_); rintro e wh ⟨rfl, rfl⟩)
  go_wp2_with (go_at_call 23; (refine (toInt64S_m A nA _ zA hzA hnA _ (hrA.below ch10_w)).mono ?_); rintro e w9 ⟨rfl, hTA, _, hb9⟩; have z9 : w8.heap.size ≤ w9.heap.size := hb9.size; have ch11_w : Below w.heap.size w w9 := ch10_w.trans ((hb9).mono (by omega)); have ch11_w2 : Below w2.heap.size w2 w9 := ch10_w2.trans ((hb9).mono (by omega)); have ch11_w8 : Below w8.heap.size w8 w9 := hb9)
  go_wp2_with (go_at_call 24; (refine (HI.out _ hTA).mono ?_); rintro e w10 ⟨v2, rfl, hO2, hb10⟩; obtain ⟨A2, c2, rfl, hV2⟩ := hO2.slice; have z10 : w9.heap.size ≤ w10.heap.size := hb10.size; have ch12_w : Below w.heap.size w w10 := ch11_w.trans ((hb10).mono (by omega)); have ch12_w2 : Below w2.heap.size w2 w10 := ch11_w2.trans ((hb10).mono (by omega)); have ch12_w8 : Below w8.heap.size w8 w10 := ch11_w8.trans ((hb10).mono (by omega)); have ch12_w9 : Below w9.heap.size w9 w10 := hb10)
  go_wp2_with (go_at_call 25; (refine (eqInt64S_c _ _ _ _ xs hn _ hV2 (hV0.below ch12_w2)).mono ?_); rintro e wq ⟨rfl, n3, rfl⟩; have ch13_w : Below w.heap.size w (w10.drewN n3) := bdrewN ch12_w n3; have ch13_w2 : Below w2.heap.size w2 (w10.drewN n3) := bdrewN ch12_w2 n3; have ch13_w8 : Below w8.heap.size w8 (w10.drewN n3) := bdrewN ch12_w8 n3; have ch13_w9 : Below w9.heap.size w9 (w10.drewN n3) := bdrewN ch12_w9 n3)
  go_wp2_with (go_at_call 27; (refine (heldInt64S_c A1 xs.length _ ys 1 hy (by omega) (by omega) hyn HM.out _ ((HR.out.below ch13_w8))).mono ?_); rintro e wh ⟨rfl, rfl⟩)
  go_returns
  exact ⟨by simp, ch13_w⟩
end Go.Proofs.Ytgnanppgbkngnaa
