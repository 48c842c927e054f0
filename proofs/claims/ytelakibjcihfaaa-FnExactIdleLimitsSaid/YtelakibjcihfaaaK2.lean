/- HoursToRun. -/
import Derived.Test.YtelakibjcihfaaaZ3
import Derived.Test.YtelakibjcihfaaaOW2
namespace Go.Proofs.Ytelakibjcihfaaa
open Go.ChangeShapes Go.WideShapes Go.ChangeAt Go.RowKit
set_option linter.unusedVariables false
set_option linter.unusedSimpArgs false

/-- The hours among the first k in which a car may go. -/
def runTo (z : List Int) (n : Nat) (y : List Int) : Nat → List Int
  | 0 => []
  | k + 1 => if 0 < allowTo z (tA y k) (tB y k) (tC y k) 1 n then runTo z n y k ++ [(k : Int)] else runTo z n y k
theorem runTo_in {z y : List Int} {n k : Nat} (h : 0 < allowTo z (tA y k) (tB y k) (tC y k) 1 n) : runTo z n y (k + 1) = runTo z n y k ++ [(k : Int)] := by rw [runTo, if_pos h]
theorem runTo_out {z y : List Int} {n k : Nat} (h : ¬ 0 < allowTo z (tA y k) (tB y k) (tC y k) 1 n) : runTo z n y (k + 1) = runTo z n y k := by rw [runTo, if_neg h]
theorem runTo_len (z y : List Int) (n : Nat) : ∀ k, (runTo z n y k).length ≤ k
  | 0 => by simp [runTo]
  | k + 1 => by
    have := runTo_len z y n k
    simp only [runTo]
    split <;> simp <;> omega
def fRun (z : List Int) (n : Nat) (y : List Int) (m : Nat) : List Int × Int := if limsB z n then (if hoursB y m then (runTo z n y m, 0) else ([], 1)) else ([], 1)
set_option maxHeartbeats 2000000 in
theorem specHoursToRun_c (A C : Option Addr) (n m c c' : Nat) (z y : List Int) (hz : z.length = n * 3) (hn : n ≤ 1048576) (hy : y.length = m * 3) (hm : m ≤ 1048576) (w : World) (hr : RowI w A z) (hr' : RowI w C y) : Calls Try.prog 43 #[.slice A n c, .slice C m c'] w fun e w' => ∃ v, e = .returned (.tuple #[v, .int .i64 (fRun z n y m).2]) ∧ OwnI 2 w' w.heap.size v (fRun z n y m).1 ∧ Below w.heap.size w w' := by
  cases hl : limsB z n
  · have HF := Lib.hid (show fRun z n y m = ([], 1) by simp [fRun, hl])
    go_enter Try.func43, Try.ntmps43
    go_wp2_with (go_at_call 50; (refine (l08Limits_c _ n _ z hz hn _ hr).mono ?_); rintro e w1 ⟨rfl, hb1⟩)
    go_returns
    exact ⟨_, by (rw [HF.out]) <;> rfl, by rw [HF.out]; exact OwnI.nil _ _ _, hb1⟩
  cases hh : hoursB y m
  · have HF := Lib.hid (show fRun z n y m = ([], 1) by simp [fRun, hl, hh])
    go_enter Try.func43, Try.ntmps43
    go_wp2_with (go_at_call 50; (refine (l08Limits_c _ n _ z hz hn _ hr).mono ?_); rintro e w1 ⟨rfl, hb1⟩; have hr1' := hr'.below hb1; have z1 : w.heap.size ≤ w1.heap.size := hb1.size)
    go_wp2_with (go_at_call 45; (refine (l08Ok_c _ m _ y hy hm _ hr1').mono ?_); rintro e w2 ⟨rfl, hb2⟩)
    go_returns
    exact ⟨_, by (rw [HF.out]) <;> rfl, by rw [HF.out]; exact OwnI.nil _ _ _, hb1.trans (hb2.mono z1)⟩
  have HF := Lib.hid (show fRun z n y m = (runTo z n y m, 0) by simp [fRun, hl, hh])
  have HL := Lib.hid (limsB_true hl)
  have HH := Lib.hid (hoursB_true hh)
  go_enter Try.func43, Try.ntmps43
  go_wp2_with (go_at_call 50; (refine (l08Limits_c _ n _ z hz hn _ hr).mono ?_); rintro e w1 ⟨rfl, hb1⟩; have hr1 := hr.below hb1; have hr1' := hr'.below hb1; have z1 : w.heap.size ≤ w1.heap.size := hb1.size)
  go_wp2_with (go_at_call 45; (refine (l08Ok_c _ m _ y hy hm _ hr1').mono ?_); rintro e w2 ⟨rfl, hb2⟩; have hr2 := hr1.below hb2; have hr2' := hr1'.below hb2; have z2 : w1.heap.size ≤ w2.heap.size := hb2.size)
  have hB2 : Below w.heap.size w w2 := hb1.trans (hb2.mono z1)
  clear hb1 hb2 hr1 hr1' hr hr'
  go_loopw [6, 7] (fun v i wr => ∃ k : Nat, k ≤ m ∧ i = .int .i64 k ∧ Hid (OwnI 2 wr w2.heap.size v (runTo z n y k)) ∧ Below w2.heap.size w2 wr) (fun _ i _ => m - (intOf i).toNat)
  case atStart => exact ⟨0, by omega, rfl, Lib.hid (OwnI.lit _ _ _ (Nat.le_refl _)), (Below.refl _ _).alloc (Nat.le_refl _) _⟩
  case round =>
    obtain ⟨k, hk, rfl, HO, hBr⟩ := hrel
    have hsr := hBr.size
    have hkl := runTo_len z y n k
    by_cases hlt : k < m
    · obtain ⟨b, off, rfl, hbb, c1, c2, c3⟩ := (hr2'.below hBr).tri hy hlt
      have i1 : (k : Int) < m := by omega
      obtain ⟨⟨x0, x1⟩, ⟨hd0, hd1⟩, v0, v1⟩ := hourOk_true (HH.out.2 k hlt)
      have hrL := hr2.below hBr
      by_cases hp : 0 < allowTo z (tA y k) (tB y k) (tC y k) 1 n
      · have HN := Lib.hid (runTo_in hp)
        go_wp2_with (first
          | (at_builtin; refine wpList_push rfl _ _ 43 rfl Try.underlying43 int64_info (k : Int) rfl HO1.out rfl rfl (by omega) (by omega) ?_; intro v' w3 hO' hB'; have HO' := Lib.hid hO'; clear hO')
          | (go_at_call 66; (refine (l08Allowed_c _ n _ z _ _ _ 1 hz hn hd0 hd1 _ _ _ hrL hbb c1 c2 c3).mono ?_); rintro e wc ⟨rfl, hc⟩; have HO1 := Lib.hid (HO.out.below hc); have hsc := hc.size; have hcc : Below w2.heap.size wr wc := hc.mono (by omega)))
        go_roundw
        case rel => exact ⟨k + 1, by omega, by go_num, Lib.hid (by rw [HN.out]; exact HO'.out), (hBr.trans hcc).trans hB'⟩
        case measure => simp [intOf]; omega
      · have HN := Lib.hid (runTo_out hp)
        go_wp2_with (go_at_call 66; (refine (l08Allowed_c _ n _ z _ _ _ 1 hz hn hd0 hd1 _ _ _ hrL hbb c1 c2 c3).mono ?_); rintro e wc ⟨rfl, hc⟩; have HO1 := Lib.hid (HO.out.below hc); have hsc := hc.size; have hcc : Below w2.heap.size wr wc := hc.mono (by omega))
        go_roundw
        case rel => exact ⟨k + 1, by omega, by go_num, Lib.hid (by rw [HN.out]; exact HO1.out), hBr.trans hcc⟩
        case measure => simp [intOf]; omega
    · obtain rfl : k = m := by omega
      go_wp2
      go_returns
      exact ⟨_, by (rw [HF.out]) <;> rfl, by rw [HF.out]; exact HO.out.mono (by omega), hB2.trans (hBr.mono (by omega))⟩
set_option maxHeartbeats 2000000 in
theorem implHoursToRun_c (A C : Option Addr) (n m c c' : Nat) (z y : List Int) (hz : z.length = n * 3) (hn : n ≤ 1048576) (hy : y.length = m * 3) (hm : m ≤ 1048576) (w : World) (hr : RowI w A z) (hr' : RowI w C y) : Calls Try.prog 44 #[.slice A n c, .slice C m c'] w fun e w' => ∃ v, e = .returned (.tuple #[v, .int .i64 (fRun z n y m).2]) ∧ OwnI 2 w' w.heap.size v (fRun z n y m).1 ∧ Below w.heap.size w w' := by
  cases hl : limsB z n
  · have HF := Lib.hid (show fRun z n y m = ([], 1) by simp [fRun, hl])
    go_enter Try.func44, Try.ntmps44
    go_wp2_with (go_at_call 21; (refine (implValidLimits_c _ n _ z hz hn _ hr).mono ?_); rintro e w1 ⟨rfl, hb1⟩)
    go_returns
    exact ⟨_, by (rw [HF.out]) <;> rfl, by rw [HF.out]; exact OwnI.nil _ _ _, hb1⟩
  cases hh : hoursB y m
  · have HF := Lib.hid (show fRun z n y m = ([], 1) by simp [fRun, hl, hh])
    go_enter Try.func44, Try.ntmps44
    go_wp2_with (go_at_call 21; (refine (implValidLimits_c _ n _ z hz hn _ hr).mono ?_); rintro e w1 ⟨rfl, hb1⟩; have hr1' := hr'.below hb1; have z1 : w.heap.size ≤ w1.heap.size := hb1.size)
    go_wp2_with (go_at_call 16; (refine (implValidHours_c _ m _ y hy hm _ hr1').mono ?_); rintro e w2 ⟨rfl, hb2⟩)
    go_returns
    exact ⟨_, by (rw [HF.out]) <;> rfl, by rw [HF.out]; exact OwnI.nil _ _ _, hb1.trans (hb2.mono z1)⟩
  have HF := Lib.hid (show fRun z n y m = (runTo z n y m, 0) by simp [fRun, hl, hh])
  have HL := Lib.hid (limsB_true hl)
  have HH := Lib.hid (hoursB_true hh)
  go_enter Try.func44, Try.ntmps44
  go_wp2_with (go_at_call 21; (refine (implValidLimits_c _ n _ z hz hn _ hr).mono ?_); rintro e w1 ⟨rfl, hb1⟩; have hr1 := hr.below hb1; have hr1' := hr'.below hb1; have z1 : w.heap.size ≤ w1.heap.size := hb1.size)
  go_wp2_with (go_at_call 16; (refine (implValidHours_c _ m _ y hy hm _ hr1').mono ?_); rintro e w2 ⟨rfl, hb2⟩; have hr2 := hr1.below hb2; have hr2' := hr1'.below hb2; have z2 : w1.heap.size ≤ w2.heap.size := hb2.size)
  have hB2 : Below w.heap.size w w2 := hb1.trans (hb2.mono z1)
  clear hb1 hb2 hr1 hr1' hr hr'
  go_loopw [6, 19] (fun v i wr => ∃ k : Nat, k ≤ m ∧ i = .int .i64 k ∧ Hid (OwnI 2 wr w2.heap.size v (runTo z n y k)) ∧ Below w2.heap.size w2 wr) (fun _ i _ => m - (intOf i).toNat)
  case atStart => exact ⟨0, by omega, rfl, Lib.hid (OwnI.nil _ _ _), Below.refl _ _⟩
  case round =>
    obtain ⟨k, hk, rfl, HO, hBr⟩ := hrel
    have hsr := hBr.size
    have hkl := runTo_len z y n k
    by_cases hlt : k < m
    · obtain ⟨b, off, rfl, hbb, c1, c2, c3⟩ := (hr2'.below hBr).tri hy hlt
      have i1 : (k : Int) < m := by omega
      obtain ⟨⟨x0, x1⟩, ⟨hd0, hd1⟩, v0, v1⟩ := hourOk_true (HH.out.2 k hlt)
      have hrL := hr2.below hBr
      by_cases hp : 0 < allowTo z (tA y k) (tB y k) (tC y k) 1 n
      · have HN := Lib.hid (runTo_in hp)
        go_wp2_with (first
          | (at_builtin; refine wpList_push rfl _ _ 43 rfl Try.underlying43 int64_info (k : Int) rfl HO1.out rfl rfl (by omega) (by omega) ?_; intro v' w3 hO' hB'; have HO' := Lib.hid hO'; clear hO')
          | (go_at_call 68; (refine (allowed_c _ n _ z _ _ _ 1 hz hn HL.out.2 hd0 hd1 _ (hrL.alloc _)).mono ?_); rintro e wc ⟨rfl, hc⟩; have HO1 := Lib.hid ((HO.out.alloc _).below hc); have hsc := hc.size; (try simp only [World.size_alloc] at hsc); have hcc : Below w2.heap.size wr wc := ((Below.refl _ _).alloc (by omega) _).trans (hc.mono (by simp; omega))))
        go_roundw
        case rel => exact ⟨k + 1, by omega, by go_num, Lib.hid (by rw [HN.out]; exact HO'.out), (hBr.trans hcc).trans hB'⟩
        case measure => simp [intOf]; omega
      · have HN := Lib.hid (runTo_out hp)
        go_wp2_with (go_at_call 68; (refine (allowed_c _ n _ z _ _ _ 1 hz hn HL.out.2 hd0 hd1 _ (hrL.alloc _)).mono ?_); rintro e wc ⟨rfl, hc⟩; have HO1 := Lib.hid ((HO.out.alloc _).below hc); have hsc := hc.size; (try simp only [World.size_alloc] at hsc); have hcc : Below w2.heap.size wr wc := ((Below.refl _ _).alloc (by omega) _).trans (hc.mono (by simp; omega)))
        go_roundw
        case rel => exact ⟨k + 1, by omega, by go_num, Lib.hid (by rw [HN.out]; exact HO1.out), hBr.trans hcc⟩
        case measure => simp [intOf]; omega
    · obtain rfl : k = m := by omega
      go_wp2
      go_returns
      exact ⟨_, by (rw [HF.out]) <;> rfl, by rw [HF.out]; exact HO.out.mono (by omega), hB2.trans (hBr.mono (by omega))⟩
theorem szHourS_g (A : Option Addr) (n c : Nat) (l : Int) (l0 : 0 ≤ l) (l1 : l ≤ 1048576) (hn : n ≤ 9223372036854775807) (w : World) : Calls Try.prog 13 #[.slice A n c, .int .i64 l] w fun e w' => e = .returned (.int .i64 (if (n : Int) ≤ l then l - n else -1)) ∧ w = w' := by
  by_cases h : (n : Int) ≤ l
  · rw [if_pos h]
    have h0 : 0 ≤ l - n := by omega
    go_enter Try.func13, Try.ntmps13
    go_wp2
    go_ret
    exact ⟨rfl, rfl⟩
  · rw [if_neg h]
    have h0 : l - n < 0 := by omega
    go_enter Try.func13, Try.ntmps13
    go_wp2
    go_ret
    exact ⟨rfl, rfl⟩
theorem szLimitS_g (A : Option Addr) (n c : Nat) (l : Int) (l0 : 0 ≤ l) (l1 : l ≤ 1048576) (hn : n ≤ 9223372036854775807) (w : World) : Calls Try.prog 18 #[.slice A n c, .int .i64 l] w fun e w' => e = .returned (.int .i64 (if (n : Int) ≤ l then l - n else -1)) ∧ w = w' := by
  by_cases h : (n : Int) ≤ l
  · rw [if_pos h]
    have h0 : 0 ≤ l - n := by omega
    go_enter Try.func18, Try.ntmps18
    go_wp2
    go_ret
    exact ⟨rfl, rfl⟩
  · rw [if_neg h]
    have h0 : l - n < 0 := by omega
    go_enter Try.func18, Try.ntmps18
    go_wp2
    go_ret
    exact ⟨rfl, rfl⟩
set_option maxHeartbeats 4000000 in
theorem walk_FnExactHoursToRun (A : Option Addr) (nA cA : Nat) (zA : List Int) (C : Option Addr) (nC cC : Nat) (zC : List Int) (w : World) (hA : StructArg 3 w A nA zA) (hC : StructArg 3 w C nC zC) : Calls Try.prog 12 #[.slice A nA cA, .slice C nC cC] w fun e w' => e = .returned (.bool true) ∧ Below w.heap.size w w' := by
  obtain ⟨hzA, hxA, hrA, _⟩ := hA
  obtain ⟨hzC, hxC, hrC, _⟩ := hC
  have HZA := Lib.hid (szLimitS_g A nA cA (1048576) (by omega) (by omega) hxA)
  rcases Int.lt_or_le (1048576) (nA : Int) with hqA | hqA
  · rw [if_neg (by omega)] at HZA
    go_enter Try.func12, Try.ntmps12
    go_wp2_with (go_at_call 18; (refine (HZA.out _).mono ?_); rintro e w0 ⟨rfl, rfl⟩)
    go_returns
    refine ⟨by simp, ?_⟩
    exact Below.refl _ _
  rw [if_pos hqA] at HZA
  have HZC := Lib.hid (szHourS_g C nC cC (1048576 - (nA : Int)) (by omega) (by omega) hxC)
  rcases Int.lt_or_le (1048576 - (nA : Int)) (nC : Int) with hqC | hqC
  · rw [if_neg (by omega)] at HZC
    go_enter Try.func12, Try.ntmps12
    go_wp2_with (go_at_call 18; (refine (HZA.out _).mono ?_); rintro e w0 ⟨rfl, rfl⟩)
    go_wp2_with (go_at_call 13; (refine (HZC.out _).mono ?_); rintro e w0 ⟨rfl, rfl⟩)
    go_returns
    refine ⟨by simp, ?_⟩
    exact Below.refl _ _
  rw [if_pos hqC] at HZC
  have hnA : nA ≤ 1048576 := by omega
  have hnC : nC ≤ 1048576 := by omega
  have hl : (fRun zA nA zC nC).1.length ≤ nC := by
    unfold fRun
    split
    · split
      · exact runTo_len zA zC nA nC
      · simp
    · simp
  obtain ⟨xs, hx⟩ : ∃ xs, (fRun zA nA zC nC).1 = xs := ⟨_, rfl⟩
  obtain ⟨q, hq⟩ : ∃ q, (fRun zA nA zC nC).2 = q := ⟨_, rfl⟩
  have hs := fun (w : World) (B D : Option Addr) (hB : RowI w B zA) (hD : RowI w D zC) => specHoursToRun_c B D nA nC nA nC zA zC hzA hnA hzC hnC w hB hD
  have hi := fun (w : World) (B D : Option Addr) (hB : RowI w B zA) (hD : RowI w D zC) => implHoursToRun_c B D nA nC nA nC zA zC hzA hnA hzC hnC w hB hD
  simp only [hx, hq] at hs hi hl
  have HS := Lib.hid (fun (w : World) {B D : Option Addr} hB hD => hs w B D hB hD)
  have HI := Lib.hid (fun (w : World) {B D : Option Addr} hB hD => hi w B D hB hD)
  clear hs hi hx hq
  have hn : xs.length ≤ 1048576 := by omega
  go_enter Try.func12, Try.ntmps12
  go_wp2_with (go_at_call 18; (refine (HZA.out _).mono ?_); rintro e w0 ⟨rfl, rfl⟩)
  go_wp2_with (go_at_call 13; (refine (HZC.out _).mono ?_); rintro e w0 ⟨rfl, rfl⟩)
  go_wp2_with (go_at_call 20; (refine (toLimitS_c A nA _ zA hzA hnA _ hrA).mono ?_); rintro e w1 ⟨rfl, hSA, _, hb1⟩; have z1 : w.heap.size ≤ w1.heap.size := hb1.size; have ch1_w : Below w.heap.size w w1 := hb1)
  go_wp2_with (go_at_call 15; (refine (toHourS_c C nC _ zC hzC hnC _ (hrC.below ch1_w)).mono ?_); rintro e w2 ⟨rfl, hSC, _, hb2⟩; have z2 : w1.heap.size ≤ w2.heap.size := hb2.size; have ch2_w : Below w.heap.size w w2 := ch1_w.trans ((hb2).mono (by omega)); have ch2_w1 : Below w1.heap.size w1 w2 := hb2)
  go_wp2_with (go_at_call 43; (refine (HS.out _ (hSA.below ch2_w1) hSC).mono ?_); rintro e w3 ⟨v0, rfl, hO0, hb3⟩; obtain ⟨A0, c0, rfl, hV0⟩ := hO0.slice; have z3 : w2.heap.size ≤ w3.heap.size := hb3.size; have ch3_w : Below w.heap.size w w3 := ch2_w.trans ((hb3).mono (by omega)); have ch3_w1 : Below w1.heap.size w1 w3 := ch2_w1.trans ((hb3).mono (by omega)); have ch3_w2 : Below w2.heap.size w2 w3 := hb3)
  go_wp2_with (go_at_call 20; (refine (toLimitS_m A nA _ zA hzA hnA _ (hrA.below ch3_w)).mono ?_); rintro e w4 ⟨rfl, hXA, hMA, hb4⟩; have z4 : w3.heap.size ≤ w4.heap.size := hb4.size; have zl4 : w3.heap.size < w4.heap.size := hMA.1; have HMA := Lib.hid hMA; clear hMA; have ch4_w : Below w.heap.size w w4 := ch3_w.trans ((hb4).mono (by omega)); have ch4_w3 : Below w3.heap.size w3 w4 := hb4)
  go_wp2_with (go_at_call 15; (refine (toHourS_m C nC _ zC hzC hnC _ (hrC.below ch4_w)).mono ?_); rintro e w5 ⟨rfl, hXC, hMC, hb5⟩; have z5 : w4.heap.size ≤ w5.heap.size := hb5.size; have zl5 : w4.heap.size < w5.heap.size := hMC.1; have HMC := Lib.hid hMC; clear hMC; have ch5_w : Below w.heap.size w w5 := ch4_w.trans ((hb5).mono (by omega)); have ch5_w3 : Below w3.heap.size w3 w5 := ch4_w3.trans ((hb5).mono (by omega)); have ch5_w4 : Below w4.heap.size w4 w5 := hb5)
  go_wp2_with (go_at_call 44; (refine (HI.out _ (hXA.below ch5_w4) hXC).mono ?_); rintro e w6 ⟨v1, rfl, hO1, hb6⟩; obtain ⟨A1, c1, rfl, hG⟩ := hO1.slice; have z6 : w5.heap.size ≤ w6.heap.size := hb6.size; have HO1 := Lib.hid hO1; clear hO1; have ch6_w : Below w.heap.size w w6 := ch5_w.trans ((hb6).mono (by omega)); have ch6_w3 : Below w3.heap.size w3 w6 := ch5_w3.trans ((hb6).mono (by omega)); have ch6_w4 : Below w4.heap.size w4 w6 := ch5_w4.trans ((hb6).mono (by omega)); have ch6_w5 : Below w5.heap.size w5 w6 := hb6)
  go_wp2_with (go_at_call 28; (refine (eqInt64S_c _ _ _ _ xs hn _ hG (hV0.below ch6_w3)).mono ?_); rintro e wq ⟨rfl, n1, rfl⟩; have ch7_w : Below w.heap.size w (w6.drewN n1) := bdrewN ch6_w n1; have ch7_w3 : Below w3.heap.size w3 (w6.drewN n1) := bdrewN ch6_w3 n1; have ch7_w4 : Below w4.heap.size w4 (w6.drewN n1) := bdrewN ch6_w4 n1; have ch7_w5 : Below w5.heap.size w5 (w6.drewN n1) := bdrewN ch6_w5 n1; have ch7_w6 : Below w6.heap.size w6 (w6.drewN n1) := bdrewN (Below.refl _ _) n1)
  have zq : ((w6.drewN n1)).heap.size = w6.heap.size := rfl
  go_wp2_with (go_at_call 20; (refine (toLimitS_c A nA _ zA hzA hnA _ (hrA.below ch7_w)).mono ?_); rintro e w7 ⟨rfl, hYA, _, hb7⟩; have z7 : (w6.drewN n1).heap.size ≤ w7.heap.size := hb7.size; have ch8_w : Below w.heap.size w w7 := ch7_w.trans ((hb7).mono (by omega)); have ch8_w3 : Below w3.heap.size w3 w7 := ch7_w3.trans ((hb7).mono (by omega)); have ch8_w4 : Below w4.heap.size w4 w7 := ch7_w4.trans ((hb7).mono (by omega)); have ch8_w5 : Below w5.heap.size w5 w7 := ch7_w5.trans ((hb7).mono (by omega)); have ch8_w6 : Below w6.heap.size w6 w7 := ch7_w6.trans ((hb7).mono (by omega)))
  go_wp2_with (go_at_call 22; (refine (eqLimitS_c _ _ nA _ _ zA hzA hnA _ (hXA.below ch8_w4) hYA).mono ?_); rintro e w8 ⟨rfl, hb8⟩; have z8 : w7.heap.size ≤ w8.heap.size := hb8.size; have ch9_w : Below w.heap.size w w8 := ch8_w.trans ((hb8).mono (by omega)); have ch9_w3 : Below w3.heap.size w3 w8 := ch8_w3.trans ((hb8).mono (by omega)); have ch9_w4 : Below w4.heap.size w4 w8 := ch8_w4.trans ((hb8).mono (by omega)); have ch9_w5 : Below w5.heap.size w5 w8 := ch8_w5.trans ((hb8).mono (by omega)); have ch9_w6 : Below w6.heap.size w6 w8 := ch8_w6.trans ((hb8).mono (by omega)))
  go_wp2_with (go_at_call 15; (refine (toHourS_c C nC _ zC hzC hnC _ (hrC.below ch9_w)).mono ?_); rintro e w9 ⟨rfl, hYC, _, hb9⟩; have z9 : w8.heap.size ≤ w9.heap.size := hb9.size; have ch10_w : Below w.heap.size w w9 := ch9_w.trans ((hb9).mono (by omega)); have ch10_w3 : Below w3.heap.size w3 w9 := ch9_w3.trans ((hb9).mono (by omega)); have ch10_w4 : Below w4.heap.size w4 w9 := ch9_w4.trans ((hb9).mono (by omega)); have ch10_w5 : Below w5.heap.size w5 w9 := ch9_w5.trans ((hb9).mono (by omega)); have ch10_w6 : Below w6.heap.size w6 w9 := ch9_w6.trans ((hb9).mono (by omega)))
  go_wp2_with (go_at_call 17; (refine (eqHourS_c _ _ nC _ _ zC hzC hnC _ (hXC.below ch10_w5) hYC).mono ?_); rintro e w10 ⟨rfl, hb10⟩; have z10 : w9.heap.size ≤ w10.heap.size := hb10.size; have ch11_w : Below w.heap.size w w10 := ch10_w.trans ((hb10).mono (by omega)); have ch11_w3 : Below w3.heap.size w3 w10 := ch10_w3.trans ((hb10).mono (by omega)); have ch11_w4 : Below w4.heap.size w4 w10 := ch10_w4.trans ((hb10).mono (by omega)); have ch11_w5 : Below w5.heap.size w5 w10 := ch10_w5.trans ((hb10).mono (by omega)); have ch11_w6 : Below w6.heap.size w6 w10 := ch10_w6.trans ((hb10).mono (by omega)))
  go_wp2_with (go_at_call 40; (refine (markLimitS_c _ nA _ (1) (by omega) (by omega) hnA _ (HMA.out.below ch11_w4)).mono ?_); rintro e w11 ⟨rfl, hg11⟩; have z11 : w10.heap.size ≤ w11.heap.size := hg11.size; have HG0 := Lib.hid (OwnI.kept (HO1.out.below ch11_w6) hg11 (by omega)); have HK0C := Lib.hid (AllInts.kept (HMC.out.below ch11_w5) hg11 (by omega)); have ch12_w : Below w.heap.size w w11 := below_grown ch11_w hg11 (by omega) (by omega); have ch12_w3 : Below w3.heap.size w3 w11 := below_grown ch11_w3 hg11 (by omega) (by omega))
  go_wp2_with (go_at_call 37; (refine (markHourS_c _ nC _ (1 + nA * 3) (by omega) (by omega) hnC _ (HK0C.out)).mono ?_); rintro e w12 ⟨rfl, hg12⟩; have z12 : w11.heap.size ≤ w12.heap.size := hg12.size; have HG1 := Lib.hid (OwnI.kept (HG0.out) hg12 (by omega)); have ch13_w : Below w.heap.size w w12 := below_grown ch12_w hg12 (by omega) (by omega); have ch13_w3 : Below w3.heap.size w3 w12 := below_grown ch12_w3 hg12 (by omega) (by omega))
  go_wp2_with (go_at_call 28; (refine (eqInt64S_c _ _ _ _ xs hn _ (HG1.out).row.2 (hV0.below ch13_w3)).mono ?_); rintro e wq ⟨rfl, n2, rfl⟩; have ch14_w : Below w.heap.size w (w12.drewN n2) := bdrewN ch13_w n2; have ch14_w3 : Below w3.heap.size w3 (w12.drewN n2) := bdrewN ch13_w3 n2)
  go_wp2_with (go_at_call 29; (refine (markInt64S_c _ xs 1 w5.heap.size (by omega) (by omega) hn _ (OwnI.drewN (HG1.out) _)).mono ?_); rintro e w13 ⟨rfl, ys, hy, hm, hO6, hb13⟩; have HM := Lib.hid (show Marked 1 ys ys.length from by rw [hy]; exact hm); have HR := Lib.hid hO6.row.2; clear hm hO6; have z13 : w12.heap.size ≤ w13.heap.size := hb13.size; have ch15_w : Below w.heap.size w w13 := ch14_w.trans ((hb13).mono (by omega)); have ch15_w3 : Below w3.heap.size w3 w13 := ch14_w3.trans ((hb13).mono (by omega)))
  have hyn : ys.length ≤ 1048576 := by omega
  go_wp2_with (go_at_call 30; (refine (heldInt64S_c A1 xs.length _ ys 1 hy (by omega) (by omega) hyn HM.out _ (HR.out)).mono ?_); rintro e wh ⟨rfl, rfl⟩)
  go_wp2_with (go_at_call 20; (refine (toLimitS_c A nA _ zA hzA hnA _ (hrA.below ch15_w)).mono ?_); rintro e w14 ⟨rfl, hTA, _, hb14⟩; have z14 : w13.heap.size ≤ w14.heap.size := hb14.size; have ch16_w : Below w.heap.size w w14 := ch15_w.trans ((hb14).mono (by omega)); have ch16_w3 : Below w3.heap.size w3 w14 := ch15_w3.trans ((hb14).mono (by omega)); have ch16_w13 : Below w13.heap.size w13 w14 := hb14)
  go_wp2_with (go_at_call 15; (refine (toHourS_c C nC _ zC hzC hnC _ (hrC.below ch16_w)).mono ?_); rintro e w15 ⟨rfl, hTC, _, hb15⟩; have z15 : w14.heap.size ≤ w15.heap.size := hb15.size; have ch17_w : Below w.heap.size w w15 := ch16_w.trans ((hb15).mono (by omega)); have ch17_w3 : Below w3.heap.size w3 w15 := ch16_w3.trans ((hb15).mono (by omega)); have ch17_w13 : Below w13.heap.size w13 w15 := ch16_w13.trans ((hb15).mono (by omega)); have ch17_w14 : Below w14.heap.size w14 w15 := hb15)
  go_wp2_with (go_at_call 44; (refine (HI.out _ (hTA.below ch17_w14) hTC).mono ?_); rintro e w16 ⟨v2, rfl, hO2, hb16⟩; obtain ⟨A2, c2, rfl, hV2⟩ := hO2.slice; have z16 : w15.heap.size ≤ w16.heap.size := hb16.size; have ch18_w : Below w.heap.size w w16 := ch17_w.trans ((hb16).mono (by omega)); have ch18_w3 : Below w3.heap.size w3 w16 := ch17_w3.trans ((hb16).mono (by omega)); have ch18_w13 : Below w13.heap.size w13 w16 := ch17_w13.trans ((hb16).mono (by omega)); have ch18_w14 : Below w14.heap.size w14 w16 := ch17_w14.trans ((hb16).mono (by omega)); have ch18_w15 : Below w15.heap.size w15 w16 := hb16)
  go_wp2_with (go_at_call 28; (refine (eqInt64S_c _ _ _ _ xs hn _ hV2 (hV0.below ch18_w3)).mono ?_); rintro e wq ⟨rfl, n3, rfl⟩; have ch19_w : Below w.heap.size w (w16.drewN n3) := bdrewN ch18_w n3; have ch19_w3 : Below w3.heap.size w3 (w16.drewN n3) := bdrewN ch18_w3 n3; have ch19_w13 : Below w13.heap.size w13 (w16.drewN n3) := bdrewN ch18_w13 n3; have ch19_w14 : Below w14.heap.size w14 (w16.drewN n3) := bdrewN ch18_w14 n3; have ch19_w15 : Below w15.heap.size w15 (w16.drewN n3) := bdrewN ch18_w15 n3)
  go_wp2_with (go_at_call 30; (refine (heldInt64S_c A1 xs.length _ ys 1 hy (by omega) (by omega) hyn HM.out _ ((HR.out.below ch19_w13))).mono ?_); rintro e wh ⟨rfl, rfl⟩)
  go_returns
  exact ⟨by simp, ch19_w⟩
end Go.Proofs.Ytelakibjcihfaaa
