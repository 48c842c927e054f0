/- Draws of marks. -/
import Derived.Test.YteddchnmjppdeaaD3
import Derived.Test.YteddchnmjppdeaaMA
namespace Go.Proofs.Yteddchnmjppdeaa
open Go.ChangeShapes Go.WideShapes Go.ChangeAt Go.RowKit
set_option linter.unusedVariables false
set_option linter.unusedSimpArgs false

theorem amongN2_c (p k : Nat) (x0 x1 : Int) (hk : k ≤ 900000000) (W : World) (b : Nat) (hb : b = W.heap.size) (h : Src p k W) : Calls Try.prog 42 #[.pointer (some ⟨p, 0, none⟩), .slice (some ⟨b, 0, none⟩) 2 2] (W.alloc (.cells #[.int .i64 x0, .int .i64 x1] 2)) fun e w' => (∃ r : Int, (r = x0 ∨ r = x1) ∧ e = .returned (.int .i64 r)) ∧ Src p (k + 2) w' ∧ W.grownBy w' (some p) := by
  subst hb
  have hp := h.1
  refine (among_c p k (some ⟨W.heap.size, 0, none⟩) 2 [x0, x1] hk (by simp) (by simp) _ (h.below ((Below.refl _ _).alloc (Nat.le_refl _) _)) (RowI.new W 2 [x0, x1]) (fun g o e => by injection e with e; injection e with e _; omega)).mono ?_
  rintro e w' ⟨⟨j, hj, rfl⟩, hS, hG⟩
  refine ⟨⟨_, ?_, rfl⟩, hS, grown_trans (grown_of_below ((Below.refl _ _).alloc (Nat.le_refl _) _)) hG⟩
  have h : nth [x0, x1] j ∈ [x0, x1] := nth_mem hj
  simpa using h
theorem amongN4_c (p k : Nat) (x0 x1 x2 x3 : Int) (hk : k ≤ 900000000) (W : World) (b : Nat) (hb : b = W.heap.size) (h : Src p k W) : Calls Try.prog 42 #[.pointer (some ⟨p, 0, none⟩), .slice (some ⟨b, 0, none⟩) 4 4] (W.alloc (.cells #[.int .i64 x0, .int .i64 x1, .int .i64 x2, .int .i64 x3] 2)) fun e w' => (∃ r : Int, (r = x0 ∨ r = x1 ∨ r = x2 ∨ r = x3) ∧ e = .returned (.int .i64 r)) ∧ Src p (k + 2) w' ∧ W.grownBy w' (some p) := by
  subst hb
  have hp := h.1
  refine (among_c p k (some ⟨W.heap.size, 0, none⟩) 4 [x0, x1, x2, x3] hk (by simp) (by simp) _ (h.below ((Below.refl _ _).alloc (Nat.le_refl _) _)) (RowI.new W 2 [x0, x1, x2, x3]) (fun g o e => by injection e with e; injection e with e _; omega)).mono ?_
  rintro e w' ⟨⟨j, hj, rfl⟩, hS, hG⟩
  refine ⟨⟨_, ?_, rfl⟩, hS, grown_trans (grown_of_below ((Below.refl _ _).alloc (Nat.le_refl _) _)) hG⟩
  have h : nth [x0, x1, x2, x3] j ∈ [x0, x1, x2, x3] := nth_mem hj
  simpa using h
theorem ownB_lt {e : TypeId} {w : World} {B p n c g : Nat} {o : Nat} {A : Option Addr} {xs : List Int} (h : OwnI e w B (.slice A n c) xs) (hp : p < B) (he : A = some ⟨g, o, none⟩) : p < g := by
  subst he
  have := (h.lt g rfl).1
  omega
set_option maxRecDepth 100000 in
set_option maxHeartbeats 4000000 in
theorem l06DrawMarks_c (p k : Nat) (hk : k ≤ 700000000) (w : World) (h : Src p k w) : Calls Try.prog 40 #[.pointer (some ⟨p, 0, none⟩)] w fun e w' => (∃ (A : Option Addr) (n c : Nat) (z : List Int) (L : Int), e = .returned (.tuple #[.slice A n c, .int .i64 L]) ∧ z.length = n ∧ n ≤ 100 ∧ (0 ≤ L ∧ L ≤ 4000001) ∧ RowI w' A z ∧ ∀ g o, A = some ⟨g, o, none⟩ → p < g) ∧ Src p (k + 200) w' ∧ w.grownBy w' (some p) := by
  have hp := h.1
  have HS0 := Lib.hid h
  clear h
  go_enter Try.func40, Try.ntmps40
  go_wp2_with (first | (go_at_call 43; (with_reducible refine (pick_c p (k) 900 (by omega) (by omega) _ HS0.out).mono ?_); rintro e w1 ⟨⟨a, a0, a1, rfl⟩, hS, hG⟩; have HS1 := Lib.hid hS; have g1 : w.grownBy w1 (some p) := grown_trans (World.grownBy.refl _ _) hG; have zw1 := g1.size; clear hS) | (go_at_call 43; (with_reducible refine (pick_c p (k + 2) 6 (by omega) (by omega) _ (HS1.out.below ((Below.refl _ _).alloc (Nat.le_refl _) _))).mono ?_); rintro e w2 ⟨⟨b, b0, b1, rfl⟩, hS, hG⟩; have HS2 := Lib.hid hS; have g2 : w.grownBy w2 (some p) := grown_trans (grown_alloc g1 _) hG; have zw2 := g2.size; clear hS; have HO2 := Lib.hid ((OwnI.lit 2 w1 w.heap.size zw1).kept hG hp)))
  generalize hL : 100 + a = L at *
  go_loopw [5, 6] (fun v i wr => ∃ (m q : Nat) (z : List Int), i = .int .i64 q ∧ m + q ≤ 6 ∧ z.length ≤ m ∧ Hid (OwnI 2 wr w.heap.size v z) ∧ Hid (Src p (k + 4 + 2 * m) wr) ∧ w.grownBy wr (some p)) (fun _ i _ => (intOf i).toNat)
  case atStart => exact ⟨0, b.toNat, [], by congr 1; omega, by omega, by simp, HO2, Lib.hid (HS2.out.mono (by omega)), g2⟩
  case round =>
    obtain ⟨m, q, z, rfl, hmq, hzl, HO, HS, hg⟩ := hrel
    have zg := hg.size
    obtain ⟨A3, c3, rfl, _⟩ := HO.out.slice
    rcases Nat.eq_zero_or_pos q with hq | hq
    · subst hq
      go_wp2_with (first | (go_at_call 43; (with_reducible refine (pick_c p (k + 4 + 2 * m) 16 (by omega) (by omega) _ HS.out).mono ?_); rintro e w3 ⟨⟨d, d0, d1, rfl⟩, hS, hG⟩; have HS3 := Lib.hid hS; have g3 : w.grownBy w3 (some p) := grown_trans hg hG; have zw3 := g3.size; clear hS; have HO3 := Lib.hid (HO.out.kept hG hp)) | (go_at_call 42; (with_reducible refine (amongN4_c p (k + 4 + 2 * m + 2) 0 1 4000000 4000001 (by omega) _ _ (by first | rfl | simp) HS3.out).mono ?_); rintro e w4 ⟨⟨x4, x4m, rfl⟩, hS, hG⟩; have HS4 := Lib.hid hS; have g4 : w.grownBy w4 (some p) := grown_trans g3 hG; have zw4 := g4.size; clear hS; have HO4 := Lib.hid (HO3.out.kept hG hp)) | (go_at_call 42; (with_reducible refine (amongN4_c p (k + 4 + 2 * m + 2) (-1) 0 (L - 1) L (by omega) _ _ (by first | rfl | simp) HS3.out).mono ?_); rintro e w4 ⟨⟨x4, x4m, rfl⟩, hS, hG⟩; have HS4 := Lib.hid hS; have g4 : w.grownBy w4 (some p) := grown_trans g3 hG; have zw4 := g4.size; clear hS; have HO4 := Lib.hid (HO3.out.kept hG hp)) | (go_at_call 42; (with_reducible refine (amongN2_c p (k + 4 + 2 * m + 2) 12 13 (by omega) _ _ (by first | rfl | simp) HS3.out).mono ?_); rintro e w4 ⟨⟨x4, x4m, rfl⟩, hS, hG⟩; have HS4 := Lib.hid hS; have g4 : w.grownBy w4 (some p) := grown_trans g3 hG; have zw4 := g4.size; clear hS) | (at_builtin; refine wpList_push rfl _ _ 22 rfl Try.underlying22 int64_info _ rfl HO4.out rfl rfl (by omega) (by omega) ?_; intro v' w6 hO' hB'; have HO' := Lib.hid hO'; have HS' := Lib.hid (HS4.out.belowB hB' hp); have g' := grown_below g4 hB'; clear hO'))
      · go_returns
        obtain ⟨hl3, hR3⟩ := HO4.out.row
        have hA := (HO4.out).shape
        exact ⟨⟨A3, z.length, c3, z, _, by simp; rfl, rfl, by omega, by omega, hR3, fun g o e => ownB_lt HO4.out hp e⟩, HS4.out.mono (by omega), g4⟩
      · go_returns
        obtain ⟨A5, c5, rfl, hR5⟩ := HO'.out.slice
        exact ⟨⟨A5, _, c5, _, _, by simp; rfl, rfl, by simp; omega, by omega, hR5, fun g o e => ownB_lt HO'.out hp e⟩, HS'.out.mono (by omega), g'⟩
      · obtain ⟨r9, hr9, rfl⟩ : ∃ r9 : Nat, r9 ≤ 13 ∧ x4 = r9 := ⟨x4.toNat, by omega, by omega⟩
        go_loopw [5, 8] (fun v i wr => ∃ (j : Nat) (z : List Int), j ≤ r9 ∧ z.length = j ∧ i = .int .i64 j ∧ Hid (OwnI 2 wr w.heap.size v z) ∧ Hid (Src p (k + 4 + 2 * m + 4) wr) ∧ w.grownBy wr (some p)) (fun _ i _ => r9 - (intOf i).toNat)
        case atStart => exact ⟨0, [], by omega, rfl, rfl, Lib.hid (OwnI.lit _ _ _ (by omega)), Lib.hid (HS4.out.below ((Below.refl _ _).alloc (Nat.le_refl _) _)), grown_alloc g4 _⟩
        case round =>
          obtain ⟨j, z', hj, hzj, rfl, HO5, HS5, hg5⟩ := hrel
          have zg5 := hg5.size
          by_cases hjr : j < r9
          · have i2 : (j : Int) < r9 := by omega
            go_wp2_with (at_builtin; refine wpList_push rfl _ _ 22 rfl Try.underlying22 int64_info _ rfl HO5.out rfl rfl (by omega) (by omega) ?_; intro v' w6 hO' hB'; have HO' := Lib.hid hO'; have HS' := Lib.hid (HS5.out.belowB hB' hp); have g' := grown_below hg5 hB'; clear hO')
            go_roundw
            case rel => exact ⟨j + 1, _, by omega, by simp; omega, by go_num, HO', HS', g'⟩
            case measure => simp [intOf]; omega
          · obtain rfl : j = r9 := by omega
            go_wp2
            go_returns
            obtain ⟨A5, c5, rfl, hR5⟩ := HO5.out.slice
            exact ⟨⟨A5, _, c5, _, _, by simp; rfl, rfl, by omega, by omega, hR5, fun g o e => ownB_lt HO5.out hp e⟩, HS5.out.mono (by omega), hg5⟩
      · go_returns
        obtain ⟨hl3, hR3⟩ := HO3.out.row
        exact ⟨⟨A3, z.length, c3, z, _, by simp; rfl, rfl, by omega, by omega, hR3, fun g o e => ownB_lt HO3.out hp e⟩, HS3.out.mono (by omega), g3⟩
    · have i1 : (0 : Int) < q := by omega
      go_wp2_with (first | (go_at_call 43; (with_reducible refine (pick_c p (k + 4 + 2 * m) L (by omega) (by omega) _ HS.out).mono ?_); rintro e w3 ⟨⟨x3, x30, x31, rfl⟩, hS, hG⟩; have HS3 := Lib.hid hS; have g3 : w.grownBy w3 (some p) := grown_trans hg hG; have zw3 := g3.size; clear hS; have HO3 := Lib.hid (HO.out.kept hG hp)) | (go_at_call 31; (refine (l00Put_c A3 c3 z _ (by omega) _ HO3.out.row.2).mono ?_); rintro e w4 ⟨v', rfl, hO', hB'⟩; have HO' := Lib.hid (hO'.mono (show w.heap.size ≤ w3.heap.size by omega)); have HS' := Lib.hid (HS3.out.below hB'); have g' := grown_trans g3 (grown_of_below hB'); clear hO'))
      have hpl := putL_len x3 z
      go_roundw
      case rel => exact ⟨m + 1, q - 1, _, by congr 1; omega, by omega, by omega, HO', Lib.hid (HS'.out.mono (by omega)), g'⟩
      case measure => simp [intOf]; omega
set_option maxRecDepth 100000 in
set_option maxHeartbeats 2000000 in
theorem DrawMarksAfter_c (A : Option Addr) (n c : Nat) (hn : n ≤ 1048576) (w : World) (hr : RowB w A n) : Calls Try.prog 16 #[.slice A n c] w fun e w' => (∃ (A : Option Addr) (n c : Nat) (z : List Int) (L s : Int), e = .returned (.tuple #[.slice A n c, .int .i64 L, .int .i64 s]) ∧ z.length = n ∧ n ≤ 100 ∧ (0 ≤ L ∧ L ≤ 4000001) ∧ (-5000000 ≤ s ∧ s ≤ 5000000) ∧ RowI w' A z) ∧ Below w.heap.size w w' := by
  go_enter Try.func16, Try.ntmps16
  go_wp2_with (first
    | (go_at_call 39; (with_reducible refine (l00From_c A n c hn _ hr).mono ?_); rintro e w0 ⟨rfl, hS, hB⟩; have HS0 := Lib.hid hS; have HB0 := Lib.hid hB; clear hS; have z0 := hB.size; clear hB)
    | (go_at_call 40; (with_reducible refine (l06DrawMarks_c _ 0 (by omega) _ HS0.out).mono ?_); rintro e w1 ⟨⟨A1, m, c1, z, L, rfl, hz, hm, hL, hR, hA1⟩, hS, hG⟩; have HS1 := Lib.hid hS; have HB1 := Lib.hid (below_grown HB0.out hG z0 (Nat.le_refl _)); have z1 := hG.size; clear hS)
    | (go_at_call 41; (refine (one_c _ (0 + 200) 9 (by omega) (by omega) _ HS1.out).mono ?_); rintro e w2 ⟨⟨b, rfl⟩, hS, hG⟩; have HS2 := Lib.hid hS; have HB2 := Lib.hid (below_grown HB1.out hG (by omega) (Nat.le_refl _)); have z2 := hG.size; have hR2 := hR.kept hG (fun g o e => Nat.ne_of_gt (hA1 g o e)); clear hS; cases b)
    | (go_at_call 42; (with_reducible refine (amongN4_c _ (0 + 200 + 2) (-4000001) (-4000000) 4000000 4000001 (by omega) _ _ (by first | rfl | simp) HS2.out).mono ?_); rintro e w3 ⟨⟨x, xm, rfl⟩, hS, hG⟩; have HB3 := Lib.hid (below_grown HB2.out hG (by omega) (Nat.le_refl _)); have hR3 := hR2.kept hG (fun g o e => Nat.ne_of_gt (hA1 g o e)); clear hS)
    | (go_at_call 43; (with_reducible refine (pick_c _ (0 + 200 + 2) 4000 (by omega) (by omega) _ HS2.out).mono ?_); rintro e w3 ⟨⟨x, x0, x1, rfl⟩, hS, hG⟩; have HB3 := Lib.hid (below_grown HB2.out hG (by omega) (Nat.le_refl _)); have hR3 := hR2.kept hG (fun g o e => Nat.ne_of_gt (hA1 g o e)); clear hS))
  all_goals
    go_returns
    exact ⟨⟨A1, m, c1, z, L, _, by simp; rfl, hz, hm, hL, by omega, hR3⟩, HB3.out⟩
set_option maxRecDepth 100000 in
set_option maxHeartbeats 2000000 in
theorem DrawShiftFor_c (A : Option Addr) (n c : Nat) (hn : n ≤ 1048576) (w : World) (hr : RowB w A n) : Calls Try.prog 19 #[.slice A n c] w fun e w' => (∃ (A : Option Addr) (n c : Nat) (z : List Int) (L s : Int), e = .returned (.tuple #[.slice A n c, .int .i64 L, .int .i64 s]) ∧ z.length = n ∧ n ≤ 100 ∧ (0 ≤ L ∧ L ≤ 4000001) ∧ (-5000000 ≤ s ∧ s ≤ 5000000) ∧ RowI w' A z) ∧ Below w.heap.size w w' := by
  go_enter Try.func19, Try.ntmps19
  go_wp2_with (first
    | (go_at_call 39; (with_reducible refine (l00From_c A n c hn _ hr).mono ?_); rintro e w0 ⟨rfl, hS, hB⟩; have HS0 := Lib.hid hS; have HB0 := Lib.hid hB; clear hS; have z0 := hB.size; clear hB)
    | (go_at_call 40; (with_reducible refine (l06DrawMarks_c _ 0 (by omega) _ HS0.out).mono ?_); rintro e w1 ⟨⟨A1, m, c1, z, L, rfl, hz, hm, hL, hR, hA1⟩, hS, hG⟩; have HS1 := Lib.hid hS; have HB1 := Lib.hid (below_grown HB0.out hG z0 (Nat.le_refl _)); have z1 := hG.size; clear hS)
    | (go_at_call 41; (refine (one_c _ (0 + 200) 9 (by omega) (by omega) _ HS1.out).mono ?_); rintro e w2 ⟨⟨b, rfl⟩, hS, hG⟩; have HS2 := Lib.hid hS; have HB2 := Lib.hid (below_grown HB1.out hG (by omega) (Nat.le_refl _)); have z2 := hG.size; have hR2 := hR.kept hG (fun g o e => Nat.ne_of_gt (hA1 g o e)); clear hS; cases b)
    | (go_at_call 42; (with_reducible refine (amongN4_c _ (0 + 200 + 2) (-1) 0 4000000 4000001 (by omega) _ _ (by first | rfl | simp) HS2.out).mono ?_); rintro e w3 ⟨⟨x, xm, rfl⟩, hS, hG⟩; have HB3 := Lib.hid (below_grown HB2.out hG (by omega) (Nat.le_refl _)); have hR3 := hR2.kept hG (fun g o e => Nat.ne_of_gt (hA1 g o e)); clear hS)
    | (go_at_call 43; (with_reducible refine (pick_c _ (0 + 200 + 2) 90 (by omega) (by omega) _ HS2.out).mono ?_); rintro e w3 ⟨⟨x, x0, x1, rfl⟩, hS, hG⟩; have HB3 := Lib.hid (below_grown HB2.out hG (by omega) (Nat.le_refl _)); have hR3 := hR2.kept hG (fun g o e => Nat.ne_of_gt (hA1 g o e)); clear hS))
  all_goals
    go_returns
    exact ⟨⟨A1, m, c1, z, L, _, by simp; rfl, hz, hm, hL, by omega, hR3⟩, HB3.out⟩
theorem b10At_c (A : Option Addr) (n c : Nat) (x : Int) (hn : n ≤ 1048576) (h0 : 0 ≤ x) (h1 : x ≤ 1000000000) (w : World) (hr : RowB w A n) : Calls Try.prog 20 #[.slice A n c, .int .i64 0, .int .i64 x] w fun e w' => (∃ r : Int, 0 ≤ r ∧ (r = 0 ∨ r < x) ∧ e = .returned (.int .i64 r)) ∧ w = w' := by
  by_cases hx : x ≤ 1
  · go_enter Try.func20, Try.ntmps20
    go_wp2
    go_returns
    exact ⟨⟨0, by omega, .inl rfl, by simp⟩, rfl⟩
  · have x0 : ¬ x = 0 := by omega
    by_cases hl : 0 < n
    · obtain ⟨b, off, rfl, hb, hc⟩ := hr hl
      obtain ⟨y, y0, y1, hy⟩ := hc 0 hl
      rw [Nat.add_zero] at hy
      have m0 := Int.emod_nonneg y x0
      have m1 := Int.emod_lt_of_pos y (show 0 < x by omega)
      have i1 : (0 : Int) < n := by omega
      go_enter Try.func20, Try.ntmps20
      go_wp2
      go_returns
      exact ⟨⟨_, m0, .inr m1, by simp⟩, rfl⟩
    · obtain rfl : n = 0 := by omega
      have m0 := Int.emod_nonneg 11 x0
      have m1 := Int.emod_lt_of_pos 11 (show 0 < x by omega)
      go_enter Try.func20, Try.ntmps20
      go_wp2
      go_returns
      exact ⟨⟨_, m0, .inr m1, by simp⟩, rfl⟩
theorem b10Nums_c (A B : Option Addr) (c c' : Nat) (xs : List Int) (hn : xs.length ≤ 1048576) (w : World) (hr : RowI w A xs) (hs : RowI w B xs) : Calls Try.prog 18 #[.slice A xs.length c, .slice B xs.length c'] w fun e w' => e = .returned (.bool true) ∧ ∃ q, w' = w.drewN q := by
  go_enter Try.func18, Try.ntmps18
  go_wp2
  go_loopw [5] (fun v wr => ∃ k : Nat, k ≤ xs.length ∧ v = .int .i64 k ∧ ∃ q, wr = w.drewN q) (fun v _ => xs.length - (intOf v).toNat)
  case atStart => exact ⟨0, by omega, rfl, 0, rfl⟩
  case round =>
    obtain ⟨k, hk, rfl, q, rfl⟩ := hrel
    by_cases hlt : k < xs.length
    · obtain ⟨b, off, rfl, hb, hc⟩ := hr.at_ hlt
      obtain ⟨b', off', rfl, hb', hc'⟩ := hs.at_ hlt
      have i1 : (k : Int) < xs.length := by omega
      go_wp2
      go_quiet (fail)
      go_wp2
      go_roundw
      case rel => exact ⟨k + 1, by omega, by go_num, _, rfl⟩
      case measure => simp [intOf] <;> omega
    · obtain rfl : k = xs.length := by omega
      go_wp2
      go_returns
      exact ⟨by simp, _, rfl⟩
end Go.Proofs.Yteddchnmjppdeaa
