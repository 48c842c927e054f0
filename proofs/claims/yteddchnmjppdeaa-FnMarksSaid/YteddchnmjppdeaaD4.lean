/- Draws of lists of limits. -/
import Derived.Test.YteddchnmjppdeaaD3
namespace Go.Proofs.Yteddchnmjppdeaa
open Go.ChangeShapes Go.WideShapes Go.ChangeAt Go.RowKit
set_option linter.unusedVariables false
set_option linter.unusedSimpArgs false

theorem among0_10_40_120_200_c (p k : Nat) (hk : k ≤ 900000000) (W : World) (b : Nat) (hb : b = W.heap.size) (h : Src p k W) : Calls Try.prog 42 #[.pointer (some ⟨p, 0, none⟩), .slice (some ⟨b, 0, none⟩) 5 5] (W.alloc (.cells #[.int .i64 0, .int .i64 10, .int .i64 40, .int .i64 120, .int .i64 200] 2)) fun e w' => (∃ r : Int, e = .returned (.int .i64 r)) ∧ Src p (k + 2) w' ∧ W.grownBy w' (some p) :=
  amongL_c p k [0, 10, 40, 120, 200] hk (by simp) (by simp) W 2 b hb h
theorem among0_0_1000_3000_6000_c (p k : Nat) (hk : k ≤ 900000000) (W : World) (b : Nat) (hb : b = W.heap.size) (h : Src p k W) : Calls Try.prog 42 #[.pointer (some ⟨p, 0, none⟩), .slice (some ⟨b, 0, none⟩) 5 5] (W.alloc (.cells #[.int .i64 0, .int .i64 0, .int .i64 1000, .int .i64 3000, .int .i64 6000] 2)) fun e w' => (∃ r : Int, e = .returned (.int .i64 r)) ∧ Src p (k + 2) w' ∧ W.grownBy w' (some p) :=
  amongL_c p k [0, 0, 1000, 3000, 6000] hk (by simp) (by simp) W 2 b hb h
theorem among0_1_4_5_c (p k : Nat) (hk : k ≤ 900000000) (W : World) (b : Nat) (hb : b = W.heap.size) (h : Src p k W) : Calls Try.prog 42 #[.pointer (some ⟨p, 0, none⟩), .slice (some ⟨b, 0, none⟩) 4 4] (W.alloc (.cells #[.int .i64 0, .int .i64 1, .int .i64 4, .int .i64 5] 2)) fun e w' => (∃ r : Int, e = .returned (.int .i64 r)) ∧ Src p (k + 2) w' ∧ W.grownBy w' (some p) :=
  amongL_c p k [0, 1, 4, 5] hk (by simp) (by simp) W 2 b hb h
theorem among89_c (p k : Nat) (hk : k ≤ 900000000) (W : World) (b : Nat) (hb : b = W.heap.size) (h : Src p k W) : Calls Try.prog 42 #[.pointer (some ⟨p, 0, none⟩), .slice (some ⟨b, 0, none⟩) 2 2] (W.alloc (.cells #[.int .i64 8, .int .i64 9] 2)) fun e w' => (∃ r : Nat, r ≤ 9 ∧ e = .returned (.int .i64 r)) ∧ Src p (k + 2) w' ∧ W.grownBy w' (some p) := by
  subst hb
  have hp := h.1
  refine (among_c p k (some ⟨W.heap.size, 0, none⟩) 2 [8, 9] hk (by simp) (by simp) _ (h.below ((Below.refl _ _).alloc (Nat.le_refl _) _)) (RowI.new W 2 [8, 9]) (fun g o e => by injection e with e; injection e with e _; omega)).mono ?_
  rintro e w' ⟨⟨j, hj, rfl⟩, hS, hG⟩
  refine ⟨?_, hS, grown_trans (grown_of_below ((Below.refl _ _).alloc (Nat.le_refl _) _)) hG⟩
  rcases j with _ | _ | j
  · exact ⟨8, by omega, rfl⟩
  · exact ⟨9, by omega, rfl⟩
  · simp at hj
    omega
set_option maxRecDepth 100000 in
set_option maxHeartbeats 4000000 in
theorem l08DrawLimits_c (p k : Nat) (hk : k ≤ 700000000) (w : World) (h : Src p k w) : Calls Try.prog 44 #[.pointer (some ⟨p, 0, none⟩)] w fun e w' => (∃ (A : Option Addr) (n c : Nat) (z : List Int), e = .returned (.slice A n c) ∧ z.length = n * 3 ∧ (n ≤ 100 ∧ n ≤ c) ∧ RowI w' A z ∧ ∀ g o, A = some ⟨g, o, none⟩ → p < g) ∧ Src p (k + 200) w' ∧ w.grownBy w' (some p) := by
  have hp := h.1
  have HS0 := Lib.hid (h.below ((Below.refl w.heap.size w).alloc (Nat.le_refl _) (.cells #[] 48)))
  have g0 : w.grownBy (w.alloc (.cells #[] 48)) (some p) := grown_alloc (World.grownBy.refl _ _) _
  have HO0 := Lib.hid (OwnT.lit 48 w w.heap.size (Nat.le_refl _))
  clear h
  go_enter Try.func44, Try.ntmps44
  go_wp2_with (go_at_call 43; (with_reducible refine (pick_c p (k) 7 (by omega) (by omega) _ HS0.out).mono ?_); rintro e w1 ⟨⟨a, a0, a1, rfl⟩, hS, hG⟩; have HS1 := Lib.hid hS; have g1 : w.grownBy w1 (some p) := grown_trans g0 hG; have zw1 := g1.size; clear hS)
  have HO1 := Lib.hid (HO0.out.kept hG hp)
  go_loopw [3, 4] (fun v i wr => ∃ (m q : Nat) (z : List Int), i = .int .i64 q ∧ m + q ≤ 7 ∧ Hid (OwnT 48 wr w.heap.size v m z) ∧ Hid (Src p (k + 2 + 6 * m) wr) ∧ w.grownBy wr (some p)) (fun _ i _ => (intOf i).toNat)
  case atStart => exact ⟨0, a.toNat, [], by congr 1; omega, by omega, HO1, Lib.hid (HS1.out.mono (by omega)), g1⟩
  case round =>
    obtain ⟨m, q, z, rfl, hmq, HO, HS, hg⟩ := hrel
    have zg := hg.size
    rcases Nat.eq_zero_or_pos q with hq | hq
    · subst hq
      go_wp2_with (first | (go_at_call 43; (with_reducible refine (pick_c p (k + 2 + 6 * m) 20 (by omega) (by omega) _ HS.out).mono ?_); rintro e w1 ⟨⟨b, b0, b1, rfl⟩, hS, hG⟩; have HS1 := Lib.hid hS; have g1 : w.grownBy w1 (some p) := grown_trans hg hG; have zw1 := g1.size; clear hS; have HO1 := Lib.hid (HO.out.kept hG hp)) | (go_at_call 42; (with_reducible refine (among0_1_4_5_c p (k + 2 + 6 * m + 2) (by omega) _ _ (by first | rfl | simp) HS1.out).mono ?_); rintro e w2 ⟨⟨c, rfl⟩, hS, hG⟩; have HS2 := Lib.hid hS; have g2 : w.grownBy w2 (some p) := grown_trans g1 hG; have zw2 := g2.size; clear hS; have HO2 := Lib.hid (HO1.out.kept hG hp)) | (go_at_call 42; (with_reducible refine (amongm1_0_1000_1001_c p (k + 2 + 6 * m + 4) (by omega) _ _ (by first | rfl | simp) HS2.out).mono ?_); rintro e w3 ⟨⟨d, rfl⟩, hS, hG⟩; have HS3 := Lib.hid hS; have g3 : w.grownBy w3 (some p) := grown_trans g2 hG; have zw3 := g3.size; clear hS; have HO3 := Lib.hid (HO2.out.kept hG hp); have B5 := fun u : Int => Lib.hid (Box3.new w3 48 u d 0)) | (go_at_call 42; (with_reducible refine (amongm1_0_20000_20001_c p (k + 2 + 6 * m + 6) (by omega) _ _ (by first | rfl | simp) (HS3.out.below ((Below.refl _ _).alloc (Nat.le_refl _) _))).mono ?_); rintro e w5 ⟨⟨y, rfl⟩, hS, hG⟩; have HS5 := Lib.hid hS; have g5 : w.grownBy w5 (some p) := grown_trans (grown_alloc g3 _) hG; have zw5 := g5.size; clear hS; have HO5 := Lib.hid ((HO3.out.alloc (.cells #[.int .i64 c, .int .i64 d, .int .i64 0] 48)).kept hG hp); have B6 := Lib.hid ((B5 (c)).out.kept hG (by omega)); obtain ⟨l5, c50, c51, c52, f5⟩ := B6.out; have f52 := f5 2; have HO6 := Lib.hid (HO5.out.other (fun k hk => (World.ownsRow.lt HO3.out.2 k hk).2) 2 (.int .i64 y)); have HS6 := Lib.hid (HS5.out.other (show p < w3.heap.size by omega) 2 (.int .i64 y)); have g6 := grown_setNew g5 (show w.heap.size ≤ w3.heap.size by omega) 2 (.int .i64 y); have z6 : w3.heap.size + 1 ≤ w5.heap.size := (by have := l5; omega)) | (go_at_call 42; (with_reducible refine (among89_c p (k + 2 + 6 * m + 2) (by omega) _ _ (by first | rfl | simp) HS1.out).mono ?_); rintro e w2 ⟨⟨r9, hr9, rfl⟩, hS, hG⟩; have HS2 := Lib.hid hS; have g2 := grown_trans g1 hG; have z2 := g2.size; clear hS) | (at_builtin; refine wpList_push3 rfl _ _ 38 rfl Try.underlying38 limit_info _ _ _ rfl HO6.out rfl rfl (by first | rfl | simp) (by omega) (by first | omega | (simp; omega)) ?_; intro v' w3 hO' hB'; have HO' := Lib.hid hO'; have HS' := Lib.hid (HS6.out.belowB hB' hp); have g' := grown_below g6 hB'; clear hO'))
      · go_returns
        obtain ⟨A, c, hv, hcp, hR, hA⟩ := HO'.out.row
        exact ⟨⟨A, m + 1, c, _, by simp [hv], HO'.out.1, ⟨by omega, hcp⟩, hR, fun g o e => Nat.lt_of_lt_of_le hp (hA g o e)⟩, HS'.out.mono (by omega), g'⟩
      · obtain ⟨wo, rfl⟩ : ∃ wo : World, wo = w2 := ⟨_, rfl⟩
        go_loopw [3, 8] (fun v i wr => ∃ (j : Nat) (z : List Int), j ≤ r9 ∧ i = .int .i64 j ∧ Hid (OwnT 48 wr w.heap.size v j z) ∧ Hid (Src p (k + 2 + 6 * m + 4) wr) ∧ w.grownBy wr (some p)) (fun _ i _ => r9 - (intOf i).toNat)
        case atStart => exact ⟨0, [], by omega, rfl, Lib.hid (OwnT.lit 48 wo w.heap.size (by omega)), Lib.hid (HS2.out.below ((Below.refl _ _).alloc (Nat.le_refl _) _)), grown_alloc g2 _⟩
        case round =>
          obtain ⟨j, z', hj, rfl, HO2, HS2, hg2⟩ := hrel
          have zg2 := hg2.size
          by_cases hjr : j < r9
          · have i2 : (j : Int) < r9 := by omega
            go_wp2_with (at_builtin; refine wpList_push3 rfl _ _ 38 rfl Try.underlying38 limit_info _ _ _ rfl HO2.out rfl rfl (by first | rfl | simp) (by omega) (by first | omega | (simp; omega)) ?_; intro v' w3 hO' hB'; have HO' := Lib.hid hO'; have HS' := Lib.hid (HS2.out.belowB hB' hp); have g' := grown_below hg2 hB'; clear hO')
            go_roundw
            case rel => exact ⟨j + 1, _, by omega, by go_num, HO', HS', g'⟩
            case measure => simp [intOf]; omega
          · obtain rfl : j = r9 := by omega
            go_wp2
            go_returns
            obtain ⟨A, c, hv, hcp, hR, hA⟩ := HO2.out.row
            exact ⟨⟨A, j, c, _, by simp [hv], HO2.out.1, ⟨by omega, hcp⟩, hR, fun g o e => Nat.lt_of_lt_of_le hp (hA g o e)⟩, HS2.out.mono (by omega), hg2⟩
      · go_returns
        obtain ⟨A, c, hv, hcp, hR, hA⟩ := HO1.out.row
        exact ⟨⟨A, m, c, _, by simp [hv], HO1.out.1, ⟨by omega, hcp⟩, hR, fun g o e => Nat.lt_of_lt_of_le hp (hA g o e)⟩, HS1.out.mono (by omega), g1⟩
    · have i1 : (0 : Int) < q := by omega
      go_wp2_with (first | (at_builtin; refine wpList_push3 rfl _ _ 38 rfl Try.underlying38 limit_info _ _ _ rfl HO4.out rfl rfl (by first | rfl | simp) (by omega) (by first | omega | (simp; omega)) ?_; intro v' w3 hO' hB'; have HO' := Lib.hid hO'; have HS' := Lib.hid (HS4.out.belowB hB' hp); have g' := grown_below g4 hB'; clear hO') | (go_at_call 43; (with_reducible refine (pick_c p (k + 2 + 6 * m) 4 (by omega) (by omega) _ HS.out).mono ?_); rintro e w1 ⟨⟨c, c0, c1, rfl⟩, hS, hG⟩; have HS1 := Lib.hid hS; have g1 : w.grownBy w1 (some p) := grown_trans hg hG; have zw1 := g1.size; clear hS; have HO1 := Lib.hid (HO.out.kept hG hp)) | (go_at_call 42; (with_reducible refine (among0_10_40_120_200_c p (k + 2 + 6 * m + 2) (by omega) _ _ (by first | rfl | simp) HS1.out).mono ?_); rintro e w2 ⟨⟨d, rfl⟩, hS, hG⟩; have HS2 := Lib.hid hS; have g2 : w.grownBy w2 (some p) := grown_trans g1 hG; have zw2 := g2.size; clear hS; have HO2 := Lib.hid (HO1.out.kept hG hp); have B5 := fun u : Int => Lib.hid (Box3.new w2 48 u d 0)) | (go_at_call 42; (with_reducible refine (among0_0_1000_3000_6000_c p (k + 2 + 6 * m + 4) (by omega) _ _ (by first | rfl | simp) (HS2.out.below ((Below.refl _ _).alloc (Nat.le_refl _) _))).mono ?_); rintro e w3 ⟨⟨y, rfl⟩, hS, hG⟩; have HS3 := Lib.hid hS; have g3 : w.grownBy w3 (some p) := grown_trans (grown_alloc g2 _) hG; have zw3 := g3.size; clear hS; have HO3 := Lib.hid ((HO2.out.alloc (.cells #[.int .i64 (1 + c), .int .i64 d, .int .i64 0] 48)).kept hG hp); have B6 := Lib.hid ((B5 ((1 + c))).out.kept hG (by omega)); obtain ⟨l5, c50, c51, c52, f5⟩ := B6.out; have f52 := f5 2; have HO4 := Lib.hid (HO3.out.other (fun k hk => (World.ownsRow.lt HO2.out.2 k hk).2) 2 (.int .i64 y)); have HS4 := Lib.hid (HS3.out.other (show p < w2.heap.size by omega) 2 (.int .i64 y)); have g4 := grown_setNew g3 (show w.heap.size ≤ w2.heap.size by omega) 2 (.int .i64 y); have z4 : w2.heap.size + 1 ≤ w3.heap.size := (by have := l5; omega)))
      go_roundw
      case rel => exact ⟨m + 1, q - 1, _, by congr 1; omega, by omega, HO', Lib.hid (HS'.out.mono (by omega)), g'⟩
      case measure => simp [intOf]; omega
end Go.Proofs.Yteddchnmjppdeaa
