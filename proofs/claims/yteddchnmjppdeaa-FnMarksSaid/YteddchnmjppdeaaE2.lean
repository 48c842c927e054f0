/- FnMarks. -/
import Derived.Test.YteddchnmjppdeaaE1
import Derived.Test.YteddchnmjppdeaaEP
import Derived.Test.YteddchnmjppdeaaD7
namespace Go.Proofs.Yteddchnmjppdeaa
open Go.ChangeShapes Go.WideShapes Go.ChangeAt Go.RowKit
set_option linter.unusedVariables false
set_option linter.unusedSimpArgs false

theorem any_anyN (p : Int → Bool) (xs : List Int) : xs.any p = anyN (fun i => p (nth xs i)) xs.length := by
  rcases h : anyN (fun i => p (nth xs i)) xs.length with _ | _
  · exact any_none fun j hj => anyN_all h hj
  · unfold anyN at h
    obtain ⟨k, hk, h⟩ := List.any_eq_true.1 h
    exact any_of (List.mem_range.1 hk) h
theorem freeB_anyN (xs : List Int) (L t s : Int) : freeB xs L t s = !anyN (fun i => nearI L s t (nth xs i)) xs.length := by
  unfold freeB
  rw [any_anyN]
theorem implMA_v {A : Option Addr} {n c : Nat} {xs ys : List Int} {L s q : Int} (h : fMarks xs L s = (ys, q)) (hL : I64 L) (hz : xs.length = n) (hn : n ≤ 1048576) (w : World) (hr : RowI w A xs) : Calls Try.prog 9 #[.slice A n c, .int .i64 L, .int .i64 s] w fun e w' => ∃ v, e = .returned (.tuple #[v, .int .i64 q]) ∧ OwnI 2 w' w.heap.size v ys ∧ Below w.heap.size w w' := by
  have := implMarksAfter_c A n c xs L s hL hz hn w hr
  rw [h] at this
  exact this
theorem implWG_v {A : Option Addr} {n c : Nat} {xs : List Int} {L a q : Int} (h : fGap xs L = (a, q)) (hL : I64 L) (hz : xs.length = n) (hn : n ≤ 1048576) (w : World) (hr : RowI w A xs) : Calls Try.prog 17 #[.slice A n c, .int .i64 L] w fun e w' => e = .returned (.tuple #[.int .i64 a, .int .i64 q]) ∧ ∃ n, w' = w.drewN n := by
  subst hz
  have := implWidestGap_c A c xs L hL hn w hr
  rw [h] at this
  exact this
theorem implSF_v {A : Option Addr} {n c : Nat} {xs : List Int} {L t a q : Int} (h : fShift xs L t = (a, q)) (hL : I64 L) (hz : xs.length = n) (hn : n ≤ 1048576) (w : World) (hr : RowI w A xs) : Calls Try.prog 14 #[.slice A n c, .int .i64 L, .int .i64 t] w fun e w' => e = .returned (.tuple #[.int .i64 a, .int .i64 q]) ∧ Below w.heap.size w w' := by
  subst hz
  have := implShiftFor_c A c xs L t hL hn w hr
  rw [h] at this
  exact this
theorem b10Nums_v {A B : Option Addr} {n c c' : Nat} {xs : List Int} (hz : xs.length = n) (hn : n ≤ 1048576) (w : World) (hr : RowI w A xs) (hs : RowI w B xs) : Calls Try.prog 18 #[.slice A n c, .slice B n c'] w fun e w' => e = .returned (.bool true) ∧ ∃ q, w' = w.drewN q := by
  subst hz
  exact b10Nums_c A B c c' xs hn w hr hs
set_option maxRecDepth 100000 in
set_option maxHeartbeats 8000000 in
theorem walk_FnMarks (A : Option Addr) (n c : Nat) (C : Option Addr) (m c' : Nat) (w : World) (hA : ByteArg w A n) (hC : ByteArg w C m) : Calls Try.prog 5 #[.slice A n c, .slice C m c'] w fun e w' => e = .returned (.bool true) ∧ Below w.heap.size w w' := by
  obtain ⟨hn9, hrA⟩ := hA
  obtain ⟨hm9, hrC⟩ := hC
  rcases Nat.lt_or_ge 1048576 n with hn | hn
  · go_enter Try.func5, Try.ntmps5
    go_wp2_with (go_at_call 15; (refine (b10Long_y hn _ _ _).mono ?_); rintro e w' ⟨rfl, rfl⟩)
    go_returns
    exact ⟨by simp, Below.refl _ _⟩
  rcases Nat.lt_or_ge 1048576 m with hm | hm
  · go_enter Try.func5, Try.ntmps5
    go_wp2_with (first
      | (go_at_call 15; (with_reducible refine (b10Long_n hn A c _).mono ?_); rintro e w' ⟨rfl, rfl⟩)
      | (go_at_call 15; (with_reducible refine (b10Long_y hm C c' _).mono ?_); rintro e w' ⟨rfl, rfl⟩))
    go_returns
    exact ⟨by simp, Below.refl _ _⟩
  have HRA := Lib.hid hrA
  have HRC := Lib.hid hrC
  clear hrA hrC
  go_enter Try.func5, Try.ntmps5
  go_wp2_with (first
    | (go_at_call 15; (with_reducible refine (b10Long_n hn A c _).mono ?_); rintro e w' ⟨rfl, rfl⟩)
    | (go_at_call 15; (with_reducible refine (b10Long_n hm C c' _).mono ?_); rintro e w' ⟨rfl, rfl⟩)
    | (go_at_call 16; (with_reducible refine (DrawMarksAfter_c A n c hn _ HRA.out).mono ?_); rintro e w1 ⟨⟨A1, n1, c1, z1, L, s, rfl, hz1, hn1, hL, hs, hR1⟩, hb1⟩))
  have HB1 := Lib.hid hb1
  have HR1 := Lib.hid hR1
  have hLI : I64 L := by unfold I64; omega
  have z1s := hb1.size
  clear hb1 hR1
  obtain ⟨ys0, q, hF⟩ : ∃ ys q, fMarks z1 L s = (ys, q) := ⟨_, _, rfl⟩
  by_cases hq : q = 0
  · subst hq
    obtain ⟨ys, F1, F2, hyl, hn12, l0, l1, s0, s1, hgap⟩ := fMarks_ok (xs := z1) (L := L) (s := s) (by rw [hF])
    clear hF
    have H1 := Lib.hid F1
    have H2 := Lib.hid F2
    have HZ := Lib.hid hz1
    have HYL := Lib.hid (hyl.trans hz1)
    rw [hz1] at hgap
    clear F1 F2 hyl hn12 hz1
    rcases hgap with ⟨h0, g1, g2⟩ | ⟨h0, G, g1, g2, G0, G1, G2⟩
    · have HG1 := Lib.hid g1
      have HG2 := Lib.hid g2
      subst h0
      clear g1 g2
      go_wp2_with (first
        | (go_at_call 9; (with_reducible refine (implMA_v H1.out hLI HZ.out (by omega) _ HR1.out).mono ?_); rintro e w2 ⟨v2, rfl, hO2, hb2⟩; have s2 := hb2.size; have HB2 := Lib.hid (HB1.out.trans (hb2.mono (by omega))); have HR2 := Lib.hid (HR1.out.below hb2); clear hb2; obtain ⟨A2, c2, hv2, hI2⟩ := hO2.slice; rw [HYL.out] at hv2; subst hv2; have HI2 := Lib.hid hI2; clear hO2 hI2)
        | (go_at_call 9; (with_reducible refine (implMA_v H2.out hLI HYL.out (by omega) _ HI2.out).mono ?_); rintro e w3 ⟨v3, rfl, hO3, hb3⟩; have s3 := hb3.size; have HB3 := Lib.hid (HB2.out.trans (hb3.mono (by omega))); have HR3 := Lib.hid (HR2.out.below hb3); have HI3 := Lib.hid (HI2.out.below hb3); clear hb3; obtain ⟨A3, c3, hv3, hJ3⟩ := hO3.slice; rw [HZ.out] at hv3; subst hv3; have HJ3 := Lib.hid hJ3; clear hO3 hJ3)
        | (go_at_call 17; (with_reducible refine (implWG_v HG1.out hLI HZ.out (by omega) _ HR3.out).mono ?_); rintro e w4 ⟨rfl, q4, hw4⟩; have HB4 := Lib.hid (show Below w.heap.size w w4 by rw [hw4]; exact bdrewN HB3.out q4); have HR4 := Lib.hid (show RowI w4 A1 z1 by rw [hw4]; exact HR3.out); have HI4 := Lib.hid (show RowI w4 A2 ys by rw [hw4]; exact HI3.out); have HJ4 := Lib.hid (show RowI w4 A3 z1 by rw [hw4]; exact HJ3.out); clear hw4)
        | (go_at_call 17; (with_reducible refine (implWG_v HG2.out hLI HYL.out (by omega) _ HI4.out).mono ?_); rintro e w5 ⟨rfl, q5, hw5⟩; have HB5 := Lib.hid (show Below w.heap.size w w5 by rw [hw5]; exact bdrewN HB4.out q5); have HR5 := Lib.hid (show RowI w5 A1 z1 by rw [hw5]; exact HR4.out); have HJ5 := Lib.hid (show RowI w5 A3 z1 by rw [hw5]; exact HJ4.out); clear hw5)
        | (go_at_call 18; (with_reducible refine (b10Nums_v HZ.out (by omega) _ HJ5.out HR5.out).mono ?_); rintro e w9 ⟨rfl, q9, hw9⟩; have HB9 := Lib.hid (show Below w.heap.size w w9 by rw [hw9]; exact bdrewN HB5.out q9); clear hw9)
        | (go_at_call 19; (with_reducible refine (DrawShiftFor_c C m c' hm _ (HRC.out.below HB9.out)).mono ?_); rintro e wh ⟨⟨A5, n5, c5, z5, L5, t5, rfl, hz5, hn5, hL5, ht5, hR5⟩, hbh⟩; have HBh := Lib.hid (HB9.out.trans (hbh.mono HB9.out.size)); have HR5 := Lib.hid hR5; have HZ5 := Lib.hid hz5; have hLI5 : I64 L5 := (by unfold I64; omega); clear hbh hR5 hz5))
      obtain ⟨a, qh, hFh⟩ : ∃ a qh, fShift z5 L5 t5 = (a, qh) := ⟨_, _, rfl⟩
      by_cases hqh : qh = 0
      · subst hqh
        obtain ⟨n5', F5, a0, aL, l0', l1', t0', hl12, hall, hfree, hleast⟩ := fShift_ok (xs := z5) (L := L5) (t := t5) (by rw [hFh])
        have HF5 := Lib.hid F5
        have HALL := Lib.hid hall
        have HFR := Lib.hid hfree
        have HLE := Lib.hid hleast
        clear hFh F5 hall hfree hleast
        have hc1 : ¬ n5' < 0 := by omega
        have hc2 : ¬ L5 < 1 := by omega
        have hc3 : ¬ L5 ≤ n5' := by omega
        go_wp2_with (go_at_call 14; (with_reducible refine (implSF_v HF5.out hLI5 HZ5.out (by omega) _ HR5.out).mono ?_); rintro e wi ⟨rfl, hbi⟩; have HBi := Lib.hid (HBh.out.trans (hbi.mono HBh.out.size)); have HRi := Lib.hid (HR5.out.below hbi); have HRAi := Lib.hid (HRA.out.below HBi.out); clear hbi)
        go_loopw [21] (fun i wr => ∃ k : Nat, k ≤ 2 ∧ i = .int .i64 k ∧ wr = wi) (fun i _ => 2 - (intOf i).toNat)
        case atStart => exact ⟨0, by omega, rfl, rfl⟩
        case round =>
          obtain ⟨k, hk, rfl, hwr⟩ := hrel
          subst hwr
          obtain rfl | rfl | rfl : k = 0 ∨ k = 1 ∨ k = 2 := by omega
          · go_wp2
            go_loopw [22, 24] (fun v i wr' => ∃ (j : Nat) (p : Bool), j ≤ n5 ∧ i = .int .i64 j ∧ v = .bool p ∧ Hid ((!anyN (fun i => nearI L5 n5' t5 (nth z5 i)) j) = p) ∧ wr' = wr) (fun _ i _ => n5 - (intOf i).toNat)
            case atStart => exact ⟨0, true, by omega, rfl, rfl, Lib.hid rfl, rfl⟩
            case round =>
              obtain ⟨j, p, hj, rfl, rfl, HP, hwr'⟩ := hrel
              subst hwr'
              by_cases hlt : j < n5
              · obtain ⟨b, off, rfl, hbb, hcc⟩ := HRi.out.at_ (show j < z5.length by rw [HZ5.out]; exact hlt)
                obtain ⟨v0, v1⟩ := HALL.out j (by rw [HZ5.out]; exact hlt)
                have i1 : (j : Int) < n5 := by omega
                have ll0 : ¬ L5 = 0 := by omega
                have HE := Lib.hid (show (nth z5 j + n5').tmod L5 = (nth z5 j + n5') % L5 from Int.tmod_eq_emod_of_nonneg (by omega))
                have he := HE.out
                have rr0 := Int.emod_nonneg (nth z5 j + n5') (show L5 ≠ 0 by omega)
                have rr1 := Int.emod_lt_of_pos (nth z5 j + n5') (show 0 < L5 by omega)
                have HN := Lib.hid (show (!anyN (fun i => nearI L5 n5' t5 (nth z5 i)) (j + 1)) = (p && decide (t5 ≤ min ((nth z5 j + n5') % L5) (L5 - (nth z5 j + n5') % L5))) from by
                  rw [anyN_succ, Bool.not_or, HP.out]
                  congr 1
                  unfold nearI
                  rw [← decide_not]
                  exact decide_eq_decide.2 (by omega))
                generalize (nth z5 j + n5') % L5 = rm at *
                cases p
                · go_wp2
                  go_roundw
                  case rel => exact ⟨j + 1, false, by omega, by go_num, rfl, Lib.hid (by rw [HN.out]; rfl), by first | rfl | trivial⟩
                  case measure => simp [intOf]; omega
                · rcases Int.lt_or_le rm (L5 - rm) with h1 | h1
                  · have e1 : min rm (L5 - rm) = rm := by omega
                    rw [e1] at HN
                    go_wp2
                    go_roundw
                    case rel => exact ⟨j + 1, _, by omega, by go_num, rfl, Lib.hid (by rw [HN.out]; simp [h1]), by first | rfl | trivial⟩
                    case measure => simp [intOf]; omega
                  · have e1 : min rm (L5 - rm) = L5 - rm := by omega
                    have h1' : ¬ rm < L5 - rm := by omega
                    rw [e1] at HN
                    go_wp2
                    go_roundw
                    case rel => exact ⟨j + 1, _, by omega, by go_num, rfl, Lib.hid (by rw [HN.out]; simp [h1']), by first | rfl | trivial⟩
                    case measure => simp [intOf]; omega
              · obtain rfl : j = n5 := by omega
                have hP := HP.out
                rw [← HZ5.out, ← freeB_anyN] at hP
                rw [HFR.out] at hP
                subst hP
                go_wp2
                go_roundw
                case rel => exact ⟨1, by omega, by go_num, by first | rfl | trivial⟩
                case measure => simp [intOf]
          · go_wp2_with (go_at_call 20; (with_reducible refine (b10At_c A n c n5' hn a0 (by omega) _ HRAi.out).mono ?_); rintro e w' ⟨⟨r, r0, r1, rfl⟩, rfl⟩)
            go_loopw [22, 24] (fun v i wr' => ∃ (j : Nat) (p : Bool), j ≤ n5 ∧ i = .int .i64 j ∧ v = .bool p ∧ Hid ((!anyN (fun i => nearI L5 r t5 (nth z5 i)) j) = p) ∧ wr' = wr) (fun _ i _ => n5 - (intOf i).toNat)
            case atStart => exact ⟨0, true, by omega, rfl, rfl, Lib.hid rfl, rfl⟩
            case round =>
              obtain ⟨j, p, hj, rfl, rfl, HP, hwr'⟩ := hrel
              subst hwr'
              by_cases hlt : j < n5
              · obtain ⟨b, off, rfl, hbb, hcc⟩ := HRi.out.at_ (show j < z5.length by rw [HZ5.out]; exact hlt)
                obtain ⟨v0, v1⟩ := HALL.out j (by rw [HZ5.out]; exact hlt)
                have i1 : (j : Int) < n5 := by omega
                have ll0 : ¬ L5 = 0 := by omega
                have HE := Lib.hid (show (nth z5 j + r).tmod L5 = (nth z5 j + r) % L5 from Int.tmod_eq_emod_of_nonneg (by omega))
                have he := HE.out
                have rr0 := Int.emod_nonneg (nth z5 j + r) (show L5 ≠ 0 by omega)
                have rr1 := Int.emod_lt_of_pos (nth z5 j + r) (show 0 < L5 by omega)
                have HN := Lib.hid (show (!anyN (fun i => nearI L5 r t5 (nth z5 i)) (j + 1)) = (p && decide (t5 ≤ min ((nth z5 j + r) % L5) (L5 - (nth z5 j + r) % L5))) from by
                  rw [anyN_succ, Bool.not_or, HP.out]
                  congr 1
                  unfold nearI
                  rw [← decide_not]
                  exact decide_eq_decide.2 (by omega))
                generalize (nth z5 j + r) % L5 = rm at *
                cases p
                · go_wp2
                  go_roundw
                  case rel => exact ⟨j + 1, false, by omega, by go_num, rfl, Lib.hid (by rw [HN.out]; rfl), by first | rfl | trivial⟩
                  case measure => simp [intOf]; omega
                · rcases Int.lt_or_le rm (L5 - rm) with h1 | h1
                  · have e1 : min rm (L5 - rm) = rm := by omega
                    rw [e1] at HN
                    go_wp2
                    go_roundw
                    case rel => exact ⟨j + 1, _, by omega, by go_num, rfl, Lib.hid (by rw [HN.out]; simp [h1]), by first | rfl | trivial⟩
                    case measure => simp [intOf]; omega
                  · have e1 : min rm (L5 - rm) = L5 - rm := by omega
                    have h1' : ¬ rm < L5 - rm := by omega
                    rw [e1] at HN
                    go_wp2
                    go_roundw
                    case rel => exact ⟨j + 1, _, by omega, by go_num, rfl, Lib.hid (by rw [HN.out]; simp [h1']), by first | rfl | trivial⟩
                    case measure => simp [intOf]; omega
              · obtain rfl : j = n5 := by omega
                have hP := HP.out
                rw [← HZ5.out, ← freeB_anyN] at hP
                by_cases hn0 : 0 < n5'
                · rw [HLE.out r r0 (by omega)] at hP
                  subst hP
                  go_wp2
                  go_roundw
                  case rel => exact ⟨2, by omega, by go_num, by first | rfl | trivial⟩
                  case measure => simp [intOf]
                · have hn0' : decide (0 < n5') = false := by simp; omega
                  go_wp2
                  go_roundw
                  case rel => exact ⟨2, by omega, by go_num, by first | rfl | trivial⟩
                  case measure => simp [intOf]
          · go_wp2
            go_returns
            exact ⟨by simp, HBi.out⟩
      · have HE := Lib.hid (show fShift z5 L5 t5 = (0, qh) from by have := fShift_no (xs := z5) (L := L5) (t := t5) (by rw [hFh]; exact hqh); rw [hFh] at this; rw [hFh, ← this])
        clear hFh
        go_wp2_with (go_at_call 14; (with_reducible refine (implSF_v HE.out hLI5 HZ5.out (by omega) _ HR5.out).mono ?_); rintro e wi ⟨rfl, hbi⟩; have HBi := Lib.hid (HBh.out.trans (hbi.mono HBh.out.size)); clear hbi)
        go_returns
        exact ⟨by simp, HBi.out⟩
    · have HG1 := Lib.hid g1
      have HG2 := Lib.hid g2
      have hlen : decide ((0 : Int) < n1) = true := by simp; omega
      have hG3 : G * n1 ≤ 800000000 := by
        have := Int.mul_le_mul_of_nonneg_left (show (n1 : Int) ≤ 100 by omega) (show 0 ≤ G by omega)
        omega
      have hG4 : 0 ≤ G * n1 := by omega
      have hG5 : decide (G < 1) = false := by simp; omega
      have hG6 : decide (G * n1 < L) = false := by simp; omega
      clear g1 g2
      go_wp2_with (first
        | (go_at_call 9; (with_reducible refine (implMA_v H1.out hLI HZ.out (by omega) _ HR1.out).mono ?_); rintro e w2 ⟨v2, rfl, hO2, hb2⟩; have s2 := hb2.size; have HB2 := Lib.hid (HB1.out.trans (hb2.mono (by omega))); have HR2 := Lib.hid (HR1.out.below hb2); clear hb2; obtain ⟨A2, c2, hv2, hI2⟩ := hO2.slice; rw [HYL.out] at hv2; subst hv2; have HI2 := Lib.hid hI2; clear hO2 hI2)
        | (go_at_call 9; (with_reducible refine (implMA_v H2.out hLI HYL.out (by omega) _ HI2.out).mono ?_); rintro e w3 ⟨v3, rfl, hO3, hb3⟩; have s3 := hb3.size; have HB3 := Lib.hid (HB2.out.trans (hb3.mono (by omega))); have HR3 := Lib.hid (HR2.out.below hb3); have HI3 := Lib.hid (HI2.out.below hb3); clear hb3; obtain ⟨A3, c3, hv3, hJ3⟩ := hO3.slice; rw [HZ.out] at hv3; subst hv3; have HJ3 := Lib.hid hJ3; clear hO3 hJ3)
        | (go_at_call 17; (with_reducible refine (implWG_v HG1.out hLI HZ.out (by omega) _ HR3.out).mono ?_); rintro e w4 ⟨rfl, q4, hw4⟩; have HB4 := Lib.hid (show Below w.heap.size w w4 by rw [hw4]; exact bdrewN HB3.out q4); have HR4 := Lib.hid (show RowI w4 A1 z1 by rw [hw4]; exact HR3.out); have HI4 := Lib.hid (show RowI w4 A2 ys by rw [hw4]; exact HI3.out); have HJ4 := Lib.hid (show RowI w4 A3 z1 by rw [hw4]; exact HJ3.out); clear hw4)
        | (go_at_call 17; (with_reducible refine (implWG_v HG2.out hLI HYL.out (by omega) _ HI4.out).mono ?_); rintro e w5 ⟨rfl, q5, hw5⟩; have HB5 := Lib.hid (show Below w.heap.size w w5 by rw [hw5]; exact bdrewN HB4.out q5); have HR5 := Lib.hid (show RowI w5 A1 z1 by rw [hw5]; exact HR4.out); have HJ5 := Lib.hid (show RowI w5 A3 z1 by rw [hw5]; exact HJ4.out); clear hw5)
        | (go_at_call 18; (with_reducible refine (b10Nums_v HZ.out (by omega) _ HJ5.out HR5.out).mono ?_); rintro e w9 ⟨rfl, q9, hw9⟩; have HB9 := Lib.hid (show Below w.heap.size w w9 by rw [hw9]; exact bdrewN HB5.out q9); clear hw9)
        | (go_at_call 19; (with_reducible refine (DrawShiftFor_c C m c' hm _ (HRC.out.below HB9.out)).mono ?_); rintro e wh ⟨⟨A5, n5, c5, z5, L5, t5, rfl, hz5, hn5, hL5, ht5, hR5⟩, hbh⟩; have HBh := Lib.hid (HB9.out.trans (hbh.mono HB9.out.size)); have HR5 := Lib.hid hR5; have HZ5 := Lib.hid hz5; have hLI5 : I64 L5 := (by unfold I64; omega); clear hbh hR5 hz5))
      obtain ⟨a, qh, hFh⟩ : ∃ a qh, fShift z5 L5 t5 = (a, qh) := ⟨_, _, rfl⟩
      by_cases hqh : qh = 0
      · subst hqh
        obtain ⟨n5', F5, a0, aL, l0', l1', t0', hl12, hall, hfree, hleast⟩ := fShift_ok (xs := z5) (L := L5) (t := t5) (by rw [hFh])
        have HF5 := Lib.hid F5
        have HALL := Lib.hid hall
        have HFR := Lib.hid hfree
        have HLE := Lib.hid hleast
        clear hFh F5 hall hfree hleast
        have hc1 : ¬ n5' < 0 := by omega
        have hc2 : ¬ L5 < 1 := by omega
        have hc3 : ¬ L5 ≤ n5' := by omega
        go_wp2_with (go_at_call 14; (with_reducible refine (implSF_v HF5.out hLI5 HZ5.out (by omega) _ HR5.out).mono ?_); rintro e wi ⟨rfl, hbi⟩; have HBi := Lib.hid (HBh.out.trans (hbi.mono HBh.out.size)); have HRi := Lib.hid (HR5.out.below hbi); have HRAi := Lib.hid (HRA.out.below HBi.out); clear hbi)
        go_loopw [21] (fun i wr => ∃ k : Nat, k ≤ 2 ∧ i = .int .i64 k ∧ wr = wi) (fun i _ => 2 - (intOf i).toNat)
        case atStart => exact ⟨0, by omega, rfl, rfl⟩
        case round =>
          obtain ⟨k, hk, rfl, hwr⟩ := hrel
          subst hwr
          obtain rfl | rfl | rfl : k = 0 ∨ k = 1 ∨ k = 2 := by omega
          · go_wp2
            go_loopw [22, 24] (fun v i wr' => ∃ (j : Nat) (p : Bool), j ≤ n5 ∧ i = .int .i64 j ∧ v = .bool p ∧ Hid ((!anyN (fun i => nearI L5 n5' t5 (nth z5 i)) j) = p) ∧ wr' = wr) (fun _ i _ => n5 - (intOf i).toNat)
            case atStart => exact ⟨0, true, by omega, rfl, rfl, Lib.hid rfl, rfl⟩
            case round =>
              obtain ⟨j, p, hj, rfl, rfl, HP, hwr'⟩ := hrel
              subst hwr'
              by_cases hlt : j < n5
              · obtain ⟨b, off, rfl, hbb, hcc⟩ := HRi.out.at_ (show j < z5.length by rw [HZ5.out]; exact hlt)
                obtain ⟨v0, v1⟩ := HALL.out j (by rw [HZ5.out]; exact hlt)
                have i1 : (j : Int) < n5 := by omega
                have ll0 : ¬ L5 = 0 := by omega
                have HE := Lib.hid (show (nth z5 j + n5').tmod L5 = (nth z5 j + n5') % L5 from Int.tmod_eq_emod_of_nonneg (by omega))
                have he := HE.out
                have rr0 := Int.emod_nonneg (nth z5 j + n5') (show L5 ≠ 0 by omega)
                have rr1 := Int.emod_lt_of_pos (nth z5 j + n5') (show 0 < L5 by omega)
                have HN := Lib.hid (show (!anyN (fun i => nearI L5 n5' t5 (nth z5 i)) (j + 1)) = (p && decide (t5 ≤ min ((nth z5 j + n5') % L5) (L5 - (nth z5 j + n5') % L5))) from by
                  rw [anyN_succ, Bool.not_or, HP.out]
                  congr 1
                  unfold nearI
                  rw [← decide_not]
                  exact decide_eq_decide.2 (by omega))
                generalize (nth z5 j + n5') % L5 = rm at *
                cases p
                · go_wp2
                  go_roundw
                  case rel => exact ⟨j + 1, false, by omega, by go_num, rfl, Lib.hid (by rw [HN.out]; rfl), by first | rfl | trivial⟩
                  case measure => simp [intOf]; omega
                · rcases Int.lt_or_le rm (L5 - rm) with h1 | h1
                  · have e1 : min rm (L5 - rm) = rm := by omega
                    rw [e1] at HN
                    go_wp2
                    go_roundw
                    case rel => exact ⟨j + 1, _, by omega, by go_num, rfl, Lib.hid (by rw [HN.out]; simp [h1]), by first | rfl | trivial⟩
                    case measure => simp [intOf]; omega
                  · have e1 : min rm (L5 - rm) = L5 - rm := by omega
                    have h1' : ¬ rm < L5 - rm := by omega
                    rw [e1] at HN
                    go_wp2
                    go_roundw
                    case rel => exact ⟨j + 1, _, by omega, by go_num, rfl, Lib.hid (by rw [HN.out]; simp [h1']), by first | rfl | trivial⟩
                    case measure => simp [intOf]; omega
              · obtain rfl : j = n5 := by omega
                have hP := HP.out
                rw [← HZ5.out, ← freeB_anyN] at hP
                rw [HFR.out] at hP
                subst hP
                go_wp2
                go_roundw
                case rel => exact ⟨1, by omega, by go_num, by first | rfl | trivial⟩
                case measure => simp [intOf]
          · go_wp2_with (go_at_call 20; (with_reducible refine (b10At_c A n c n5' hn a0 (by omega) _ HRAi.out).mono ?_); rintro e w' ⟨⟨r, r0, r1, rfl⟩, rfl⟩)
            go_loopw [22, 24] (fun v i wr' => ∃ (j : Nat) (p : Bool), j ≤ n5 ∧ i = .int .i64 j ∧ v = .bool p ∧ Hid ((!anyN (fun i => nearI L5 r t5 (nth z5 i)) j) = p) ∧ wr' = wr) (fun _ i _ => n5 - (intOf i).toNat)
            case atStart => exact ⟨0, true, by omega, rfl, rfl, Lib.hid rfl, rfl⟩
            case round =>
              obtain ⟨j, p, hj, rfl, rfl, HP, hwr'⟩ := hrel
              subst hwr'
              by_cases hlt : j < n5
              · obtain ⟨b, off, rfl, hbb, hcc⟩ := HRi.out.at_ (show j < z5.length by rw [HZ5.out]; exact hlt)
                obtain ⟨v0, v1⟩ := HALL.out j (by rw [HZ5.out]; exact hlt)
                have i1 : (j : Int) < n5 := by omega
                have ll0 : ¬ L5 = 0 := by omega
                have HE := Lib.hid (show (nth z5 j + r).tmod L5 = (nth z5 j + r) % L5 from Int.tmod_eq_emod_of_nonneg (by omega))
                have he := HE.out
                have rr0 := Int.emod_nonneg (nth z5 j + r) (show L5 ≠ 0 by omega)
                have rr1 := Int.emod_lt_of_pos (nth z5 j + r) (show 0 < L5 by omega)
                have HN := Lib.hid (show (!anyN (fun i => nearI L5 r t5 (nth z5 i)) (j + 1)) = (p && decide (t5 ≤ min ((nth z5 j + r) % L5) (L5 - (nth z5 j + r) % L5))) from by
                  rw [anyN_succ, Bool.not_or, HP.out]
                  congr 1
                  unfold nearI
                  rw [← decide_not]
                  exact decide_eq_decide.2 (by omega))
                generalize (nth z5 j + r) % L5 = rm at *
                cases p
                · go_wp2
                  go_roundw
                  case rel => exact ⟨j + 1, false, by omega, by go_num, rfl, Lib.hid (by rw [HN.out]; rfl), by first | rfl | trivial⟩
                  case measure => simp [intOf]; omega
                · rcases Int.lt_or_le rm (L5 - rm) with h1 | h1
                  · have e1 : min rm (L5 - rm) = rm := by omega
                    rw [e1] at HN
                    go_wp2
                    go_roundw
                    case rel => exact ⟨j + 1, _, by omega, by go_num, rfl, Lib.hid (by rw [HN.out]; simp [h1]), by first | rfl | trivial⟩
                    case measure => simp [intOf]; omega
                  · have e1 : min rm (L5 - rm) = L5 - rm := by omega
                    have h1' : ¬ rm < L5 - rm := by omega
                    rw [e1] at HN
                    go_wp2
                    go_roundw
                    case rel => exact ⟨j + 1, _, by omega, by go_num, rfl, Lib.hid (by rw [HN.out]; simp [h1']), by first | rfl | trivial⟩
                    case measure => simp [intOf]; omega
              · obtain rfl : j = n5 := by omega
                have hP := HP.out
                rw [← HZ5.out, ← freeB_anyN] at hP
                by_cases hn0 : 0 < n5'
                · rw [HLE.out r r0 (by omega)] at hP
                  subst hP
                  go_wp2
                  go_roundw
                  case rel => exact ⟨2, by omega, by go_num, by first | rfl | trivial⟩
                  case measure => simp [intOf]
                · have hn0' : decide (0 < n5') = false := by simp; omega
                  go_wp2
                  go_roundw
                  case rel => exact ⟨2, by omega, by go_num, by first | rfl | trivial⟩
                  case measure => simp [intOf]
          · go_wp2
            go_returns
            exact ⟨by simp, HBi.out⟩
      · have HE := Lib.hid (show fShift z5 L5 t5 = (0, qh) from by have := fShift_no (xs := z5) (L := L5) (t := t5) (by rw [hFh]; exact hqh); rw [hFh] at this; rw [hFh, ← this])
        clear hFh
        go_wp2_with (go_at_call 14; (with_reducible refine (implSF_v HE.out hLI5 HZ5.out (by omega) _ HR5.out).mono ?_); rintro e wi ⟨rfl, hbi⟩; have HBi := Lib.hid (HBh.out.trans (hbi.mono HBh.out.size)); clear hbi)
        go_returns
        exact ⟨by simp, HBi.out⟩
  · have HE := Lib.hid (show fMarks z1 L s = ([], q) from by have := fMarks_no (xs := z1) (L := L) (s := s) (by rw [hF]; exact hq); rw [hF] at this; rw [hF, ← this])
    have HZ := Lib.hid hz1
    clear hF hz1
    go_wp2_with (go_at_call 9; (with_reducible refine (implMA_v HE.out hLI HZ.out (by omega) _ HR1.out).mono ?_); rintro e w9 ⟨v9, rfl, hO9, hb9⟩; have s9 := hb9.size; have HB9 := Lib.hid (HB1.out.trans (hb9.mono (by omega))); clear hb9; obtain ⟨A9, c9, hv9, _⟩ := hO9.slice; replace hv9 : v9 = .slice A9 0 c9 := hv9; subst hv9; clear hO9)
    go_wp2_with (go_at_call 19; (with_reducible refine (DrawShiftFor_c C m c' hm _ (HRC.out.below HB9.out)).mono ?_); rintro e wh ⟨⟨A5, n5, c5, z5, L5, t5, rfl, hz5, hn5, hL5, ht5, hR5⟩, hbh⟩; have HBh := Lib.hid (HB9.out.trans (hbh.mono HB9.out.size)); have HR5 := Lib.hid hR5; have HZ5 := Lib.hid hz5; have hLI5 : I64 L5 := (by unfold I64; omega); clear hbh hR5 hz5)
    obtain ⟨a, qh, hFh⟩ : ∃ a qh, fShift z5 L5 t5 = (a, qh) := ⟨_, _, rfl⟩
    by_cases hqh : qh = 0
    · subst hqh
      obtain ⟨n5', F5, a0, aL, l0', l1', t0', hl12, hall, hfree, hleast⟩ := fShift_ok (xs := z5) (L := L5) (t := t5) (by rw [hFh])
      have HF5 := Lib.hid F5
      have HALL := Lib.hid hall
      have HFR := Lib.hid hfree
      have HLE := Lib.hid hleast
      clear hFh F5 hall hfree hleast
      have hc1 : ¬ n5' < 0 := by omega
      have hc2 : ¬ L5 < 1 := by omega
      have hc3 : ¬ L5 ≤ n5' := by omega
      go_wp2_with (go_at_call 14; (with_reducible refine (implSF_v HF5.out hLI5 HZ5.out (by omega) _ HR5.out).mono ?_); rintro e wi ⟨rfl, hbi⟩; have HBi := Lib.hid (HBh.out.trans (hbi.mono HBh.out.size)); have HRi := Lib.hid (HR5.out.below hbi); have HRAi := Lib.hid (HRA.out.below HBi.out); clear hbi)
      go_loopw [21] (fun i wr => ∃ k : Nat, k ≤ 2 ∧ i = .int .i64 k ∧ wr = wi) (fun i _ => 2 - (intOf i).toNat)
      case atStart => exact ⟨0, by omega, rfl, rfl⟩
      case round =>
        obtain ⟨k, hk, rfl, hwr⟩ := hrel
        subst hwr
        obtain rfl | rfl | rfl : k = 0 ∨ k = 1 ∨ k = 2 := by omega
        · go_wp2
          go_loopw [22, 24] (fun v i wr' => ∃ (j : Nat) (p : Bool), j ≤ n5 ∧ i = .int .i64 j ∧ v = .bool p ∧ Hid ((!anyN (fun i => nearI L5 n5' t5 (nth z5 i)) j) = p) ∧ wr' = wr) (fun _ i _ => n5 - (intOf i).toNat)
          case atStart => exact ⟨0, true, by omega, rfl, rfl, Lib.hid rfl, rfl⟩
          case round =>
            obtain ⟨j, p, hj, rfl, rfl, HP, hwr'⟩ := hrel
            subst hwr'
            by_cases hlt : j < n5
            · obtain ⟨b, off, rfl, hbb, hcc⟩ := HRi.out.at_ (show j < z5.length by rw [HZ5.out]; exact hlt)
              obtain ⟨v0, v1⟩ := HALL.out j (by rw [HZ5.out]; exact hlt)
              have i1 : (j : Int) < n5 := by omega
              have ll0 : ¬ L5 = 0 := by omega
              have HE := Lib.hid (show (nth z5 j + n5').tmod L5 = (nth z5 j + n5') % L5 from Int.tmod_eq_emod_of_nonneg (by omega))
              have he := HE.out
              have rr0 := Int.emod_nonneg (nth z5 j + n5') (show L5 ≠ 0 by omega)
              have rr1 := Int.emod_lt_of_pos (nth z5 j + n5') (show 0 < L5 by omega)
              have HN := Lib.hid (show (!anyN (fun i => nearI L5 n5' t5 (nth z5 i)) (j + 1)) = (p && decide (t5 ≤ min ((nth z5 j + n5') % L5) (L5 - (nth z5 j + n5') % L5))) from by
                rw [anyN_succ, Bool.not_or, HP.out]
                congr 1
                unfold nearI
                rw [← decide_not]
                exact decide_eq_decide.2 (by omega))
              generalize (nth z5 j + n5') % L5 = rm at *
              cases p
              · go_wp2
                go_roundw
                case rel => exact ⟨j + 1, false, by omega, by go_num, rfl, Lib.hid (by rw [HN.out]; rfl), by first | rfl | trivial⟩
                case measure => simp [intOf]; omega
              · rcases Int.lt_or_le rm (L5 - rm) with h1 | h1
                · have e1 : min rm (L5 - rm) = rm := by omega
                  rw [e1] at HN
                  go_wp2
                  go_roundw
                  case rel => exact ⟨j + 1, _, by omega, by go_num, rfl, Lib.hid (by rw [HN.out]; simp [h1]), by first | rfl | trivial⟩
                  case measure => simp [intOf]; omega
                · have e1 : min rm (L5 - rm) = L5 - rm := by omega
                  have h1' : ¬ rm < L5 - rm := by omega
                  rw [e1] at HN
                  go_wp2
                  go_roundw
                  case rel => exact ⟨j + 1, _, by omega, by go_num, rfl, Lib.hid (by rw [HN.out]; simp [h1']), by first | rfl | trivial⟩
                  case measure => simp [intOf]; omega
            · obtain rfl : j = n5 := by omega
              have hP := HP.out
              rw [← HZ5.out, ← freeB_anyN] at hP
              rw [HFR.out] at hP
              subst hP
              go_wp2
              go_roundw
              case rel => exact ⟨1, by omega, by go_num, by first | rfl | trivial⟩
              case measure => simp [intOf]
        · go_wp2_with (go_at_call 20; (with_reducible refine (b10At_c A n c n5' hn a0 (by omega) _ HRAi.out).mono ?_); rintro e w' ⟨⟨r, r0, r1, rfl⟩, rfl⟩)
          go_loopw [22, 24] (fun v i wr' => ∃ (j : Nat) (p : Bool), j ≤ n5 ∧ i = .int .i64 j ∧ v = .bool p ∧ Hid ((!anyN (fun i => nearI L5 r t5 (nth z5 i)) j) = p) ∧ wr' = wr) (fun _ i _ => n5 - (intOf i).toNat)
          case atStart => exact ⟨0, true, by omega, rfl, rfl, Lib.hid rfl, rfl⟩
          case round =>
            obtain ⟨j, p, hj, rfl, rfl, HP, hwr'⟩ := hrel
            subst hwr'
            by_cases hlt : j < n5
            · obtain ⟨b, off, rfl, hbb, hcc⟩ := HRi.out.at_ (show j < z5.length by rw [HZ5.out]; exact hlt)
              obtain ⟨v0, v1⟩ := HALL.out j (by rw [HZ5.out]; exact hlt)
              have i1 : (j : Int) < n5 := by omega
              have ll0 : ¬ L5 = 0 := by omega
              have HE := Lib.hid (show (nth z5 j + r).tmod L5 = (nth z5 j + r) % L5 from Int.tmod_eq_emod_of_nonneg (by omega))
              have he := HE.out
              have rr0 := Int.emod_nonneg (nth z5 j + r) (show L5 ≠ 0 by omega)
              have rr1 := Int.emod_lt_of_pos (nth z5 j + r) (show 0 < L5 by omega)
              have HN := Lib.hid (show (!anyN (fun i => nearI L5 r t5 (nth z5 i)) (j + 1)) = (p && decide (t5 ≤ min ((nth z5 j + r) % L5) (L5 - (nth z5 j + r) % L5))) from by
                rw [anyN_succ, Bool.not_or, HP.out]
                congr 1
                unfold nearI
                rw [← decide_not]
                exact decide_eq_decide.2 (by omega))
              generalize (nth z5 j + r) % L5 = rm at *
              cases p
              · go_wp2
                go_roundw
                case rel => exact ⟨j + 1, false, by omega, by go_num, rfl, Lib.hid (by rw [HN.out]; rfl), by first | rfl | trivial⟩
                case measure => simp [intOf]; omega
              · rcases Int.lt_or_le rm (L5 - rm) with h1 | h1
                · have e1 : min rm (L5 - rm) = rm := by omega
                  rw [e1] at HN
                  go_wp2
                  go_roundw
                  case rel => exact ⟨j + 1, _, by omega, by go_num, rfl, Lib.hid (by rw [HN.out]; simp [h1]), by first | rfl | trivial⟩
                  case measure => simp [intOf]; omega
                · have e1 : min rm (L5 - rm) = L5 - rm := by omega
                  have h1' : ¬ rm < L5 - rm := by omega
                  rw [e1] at HN
                  go_wp2
                  go_roundw
                  case rel => exact ⟨j + 1, _, by omega, by go_num, rfl, Lib.hid (by rw [HN.out]; simp [h1']), by first | rfl | trivial⟩
                  case measure => simp [intOf]; omega
            · obtain rfl : j = n5 := by omega
              have hP := HP.out
              rw [← HZ5.out, ← freeB_anyN] at hP
              by_cases hn0 : 0 < n5'
              · rw [HLE.out r r0 (by omega)] at hP
                subst hP
                go_wp2
                go_roundw
                case rel => exact ⟨2, by omega, by go_num, by first | rfl | trivial⟩
                case measure => simp [intOf]
              · have hn0' : decide (0 < n5') = false := by simp; omega
                go_wp2
                go_roundw
                case rel => exact ⟨2, by omega, by go_num, by first | rfl | trivial⟩
                case measure => simp [intOf]
        · go_wp2
          go_returns
          exact ⟨by simp, HBi.out⟩
    · have HE := Lib.hid (show fShift z5 L5 t5 = (0, qh) from by have := fShift_no (xs := z5) (L := L5) (t := t5) (by rw [hFh]; exact hqh); rw [hFh] at this; rw [hFh, ← this])
      clear hFh
      go_wp2_with (go_at_call 14; (with_reducible refine (implSF_v HE.out hLI5 HZ5.out (by omega) _ HR5.out).mono ?_); rintro e wi ⟨rfl, hbi⟩; have HBi := Lib.hid (HBh.out.trans (hbi.mono HBh.out.size)); clear hbi)
      go_returns
      exact ⟨by simp, HBi.out⟩
end Go.Proofs.Yteddchnmjppdeaa
