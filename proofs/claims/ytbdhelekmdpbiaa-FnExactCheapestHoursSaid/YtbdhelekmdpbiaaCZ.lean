/- CheapestHours: the law. -/
import Derived.Test.YtbdhelekmdpbiaaCY
import Derived.Test.YtbdhelekmdpbiaaWI
namespace Go.Proofs.Ytbdhelekmdpbiaa
open Go.ChangeShapes Go.WideShapes Go.ChangeAt Go.RowKit
set_option linter.unusedVariables false
set_option linter.unusedSimpArgs false

set_option maxHeartbeats 4000000 in
theorem walk_FnExactCheapestHours (A : Option Addr) (nA cA : Nat) (zA : List Int) (x : Int) (y : Int) (w : World) (hA : IntArg w A nA zA) (_ : I64 x) (_ : I64 y) : Calls Try.prog 3 #[.slice A nA cA, .int .i64 x, .int .i64 y] w fun e w' => e = .returned (.bool true) ∧ Below w.heap.size w w' := by
  obtain ⟨hzA, hxA, hrA, _⟩ := hA
  replace hzA : zA.length = nA := by omega
  by_cases hnA : nA ≤ 1048576
  case neg =>
    have hb : ¬ (nA : Int) ≤ 1048576 := by omega
    go_enter Try.func3, Try.ntmps3
    go_wp2
    go_returns
    refine ⟨by simp, ?_⟩
    exact Below.refl _ _
  have hnI : (nA : Int) ≤ 1048576 := by omega
  obtain ⟨ys, hys⟩ := srt_is (ps := zA) (hrsI nA)
  have hl := fCheap_len zA x y ys
  obtain ⟨xs, hx⟩ : ∃ xs, (fCheap zA x y ys).1 = xs := ⟨_, rfl⟩
  obtain ⟨q, hq⟩ : ∃ q, (fCheap zA x y ys).2.1 = q := ⟨_, rfl⟩
  obtain ⟨q', hq'⟩ : ∃ q, (fCheap zA x y ys).2.2 = q := ⟨_, rfl⟩
  have hs := fun (w : World) (B : Option Addr) (hB : RowI w B zA) => specCheap_c B nA nA zA x y ys hzA hnA hys w hB
  have hi := fun (w : World) (B : Option Addr) (hB : RowI w B zA) => implCheap_c B nA nA zA x y ys hzA hnA hys w hB
  simp only [hx, hq, hq'] at hs hi hl
  have HS := Lib.hid (fun (w : World) {B : Option Addr} hB => hs w B hB)
  have HI := Lib.hid (fun (w : World) {B : Option Addr} hB => hi w B hB)
  clear hs hi hx hq hq' hys
  have hn : xs.length ≤ 1048576 := by omega
  go_enter Try.func3, Try.ntmps3
  go_wp2_with (go_at_call 5; (refine (toInt64S_m A nA _ zA hzA hnA _ hrA).mono ?_); rintro e w1 ⟨rfl, hSA, _, hb1⟩; have z1 : w.heap.size ≤ w1.heap.size := hb1.size; have ch1_w : Below w.heap.size w w1 := hb1)
  go_wp2_with (go_at_call 4; (refine (HS.out _ hSA).mono ?_); rintro e w2 ⟨v0, rfl, hO0, hb2⟩; obtain ⟨A0, c0, rfl, hV0⟩ := hO0.slice; have z2 : w1.heap.size ≤ w2.heap.size := hb2.size; have ch2_w : Below w.heap.size w w2 := ch1_w.trans ((hb2).mono (by omega)); have ch2_w1 : Below w1.heap.size w1 w2 := hb2)
  go_wp2_with (go_at_call 5; (refine (toInt64S_m A nA _ zA hzA hnA _ (hrA.below ch2_w)).mono ?_); rintro e w3 ⟨rfl, hXA, hMA, hb3⟩; have z3 : w2.heap.size ≤ w3.heap.size := hb3.size; have zl3 : w2.heap.size < w3.heap.size := hMA.1; have HMA := Lib.hid hMA; clear hMA; have ch3_w : Below w.heap.size w w3 := ch2_w.trans ((hb3).mono (by omega)); have ch3_w2 : Below w2.heap.size w2 w3 := hb3)
  go_wp2_with (go_at_call 6; (refine (HI.out _ hXA).mono ?_); rintro e w4 ⟨v1, rfl, hO1, hb4⟩; obtain ⟨A1, c1, rfl, hG⟩ := hO1.slice; have z4 : w3.heap.size ≤ w4.heap.size := hb4.size; have HO1 := Lib.hid hO1; clear hO1; have ch4_w : Below w.heap.size w w4 := ch3_w.trans ((hb4).mono (by omega)); have ch4_w2 : Below w2.heap.size w2 w4 := ch3_w2.trans ((hb4).mono (by omega)); have ch4_w3 : Below w3.heap.size w3 w4 := hb4)
  go_wp2_with (go_at_call 7; (refine (eqInt64S_c _ _ _ _ xs hn _ hG (hV0.below ch4_w2)).mono ?_); rintro e wq ⟨rfl, n1, rfl⟩; have ch5_w : Below w.heap.size w (w4.drewN n1) := bdrewN ch4_w n1; have ch5_w2 : Below w2.heap.size w2 (w4.drewN n1) := bdrewN ch4_w2 n1; have ch5_w3 : Below w3.heap.size w3 (w4.drewN n1) := bdrewN ch4_w3 n1; have ch5_w4 : Below w4.heap.size w4 (w4.drewN n1) := bdrewN (Below.refl _ _) n1)
  have zq : ((w4.drewN n1)).heap.size = w4.heap.size := rfl
  go_wp2_with (go_at_call 5; (refine (toInt64S_m A nA _ zA hzA hnA _ (hrA.below ch5_w)).mono ?_); rintro e w5 ⟨rfl, hYA, _, hb5⟩; have z5 : (w4.drewN n1).heap.size ≤ w5.heap.size := hb5.size; have ch6_w : Below w.heap.size w w5 := ch5_w.trans ((hb5).mono (by omega)); have ch6_w2 : Below w2.heap.size w2 w5 := ch5_w2.trans ((hb5).mono (by omega)); have ch6_w3 : Below w3.heap.size w3 w5 := ch5_w3.trans ((hb5).mono (by omega)); have ch6_w4 : Below w4.heap.size w4 w5 := ch5_w4.trans ((hb5).mono (by omega)))
  go_wp2_with (go_at_call 7; (refine (eqInt64S_d _ _ nA _ _ zA hzA hnA _ (hXA.below ch6_w3) hYA).mono ?_); rintro e w6 ⟨rfl, hb6⟩; have z6 : w5.heap.size ≤ w6.heap.size := hb6.size; have ch7_w : Below w.heap.size w w6 := ch6_w.trans ((hb6).mono (by omega)); have ch7_w2 : Below w2.heap.size w2 w6 := ch6_w2.trans ((hb6).mono (by omega)); have ch7_w3 : Below w3.heap.size w3 w6 := ch6_w3.trans ((hb6).mono (by omega)); have ch7_w4 : Below w4.heap.size w4 w6 := ch6_w4.trans ((hb6).mono (by omega)))
  go_wp2_with (go_at_call 8; (refine (markInt64G_c _ nA _ (1) (by omega) (by omega) hnA _ (HMA.out.below ch7_w3)).mono ?_); rintro e w7 ⟨rfl, hg7⟩; have z7 : w6.heap.size ≤ w7.heap.size := hg7.size; have HG0 := Lib.hid (OwnI.kept (HO1.out.below ch7_w4) hg7 (by omega)); have ch8_w : Below w.heap.size w w7 := below_grown ch7_w hg7 (by omega) (by omega); have ch8_w2 : Below w2.heap.size w2 w7 := below_grown ch7_w2 hg7 (by omega) (by omega))
  go_wp2_with (go_at_call 7; (refine (eqInt64S_c _ _ _ _ xs hn _ (HG0.out).row.2 (hV0.below ch8_w2)).mono ?_); rintro e wq ⟨rfl, n2, rfl⟩; have ch9_w : Below w.heap.size w (w7.drewN n2) := bdrewN ch8_w n2; have ch9_w2 : Below w2.heap.size w2 (w7.drewN n2) := bdrewN ch8_w2 n2)
  go_wp2_with (go_at_call 8; (refine (markInt64S_c _ xs 1 w3.heap.size (by omega) (by omega) hn _ (OwnI.drewN (HG0.out) _)).mono ?_); rintro e w8 ⟨rfl, ys, hy, hm, hO6, hb8⟩; have HM := Lib.hid (show Marked 1 ys ys.length from by rw [hy]; exact hm); have HR := Lib.hid hO6.row.2; clear hm hO6; have z8 : w7.heap.size ≤ w8.heap.size := hb8.size; have ch10_w : Below w.heap.size w w8 := ch9_w.trans ((hb8).mono (by omega)); have ch10_w2 : Below w2.heap.size w2 w8 := ch9_w2.trans ((hb8).mono (by omega)))
  have hyn : ys.length ≤ 1048576 := by omega
  go_wp2_with (go_at_call 9; (refine (heldInt64S_c A1 xs.length _ ys 1 hy (by omega) (by omega) hyn HM.out _ (HR.out)).mono ?_); rintro e wh ⟨rfl, rfl⟩)
  go_wp2_with (go_at_call 5; (refine (toInt64S_m A nA _ zA hzA hnA _ (hrA.below ch10_w)).mono ?_); rintro e w9 ⟨rfl, hTA, _, hb9⟩; have z9 : w8.heap.size ≤ w9.heap.size := hb9.size; have ch11_w : Below w.heap.size w w9 := ch10_w.trans ((hb9).mono (by omega)); have ch11_w2 : Below w2.heap.size w2 w9 := ch10_w2.trans ((hb9).mono (by omega)); have ch11_w8 : Below w8.heap.size w8 w9 := hb9)
  go_wp2_with (go_at_call 6; (refine (HI.out _ hTA).mono ?_); rintro e w10 ⟨v2, rfl, hO2, hb10⟩; obtain ⟨A2, c2, rfl, hV2⟩ := hO2.slice; have z10 : w9.heap.size ≤ w10.heap.size := hb10.size; have ch12_w : Below w.heap.size w w10 := ch11_w.trans ((hb10).mono (by omega)); have ch12_w2 : Below w2.heap.size w2 w10 := ch11_w2.trans ((hb10).mono (by omega)); have ch12_w8 : Below w8.heap.size w8 w10 := ch11_w8.trans ((hb10).mono (by omega)); have ch12_w9 : Below w9.heap.size w9 w10 := hb10)
  go_wp2_with (go_at_call 7; (refine (eqInt64S_c _ _ _ _ xs hn _ hV2 (hV0.below ch12_w2)).mono ?_); rintro e wq ⟨rfl, n3, rfl⟩; have ch13_w : Below w.heap.size w (w10.drewN n3) := bdrewN ch12_w n3; have ch13_w2 : Below w2.heap.size w2 (w10.drewN n3) := bdrewN ch12_w2 n3; have ch13_w8 : Below w8.heap.size w8 (w10.drewN n3) := bdrewN ch12_w8 n3; have ch13_w9 : Below w9.heap.size w9 (w10.drewN n3) := bdrewN ch12_w9 n3)
  go_wp2_with (go_at_call 9; (refine (heldInt64S_c A1 xs.length _ ys 1 hy (by omega) (by omega) hyn HM.out _ ((HR.out.below ch13_w8))).mono ?_); rintro e wh ⟨rfl, rfl⟩)
  go_returns
  exact ⟨by simp, ch13_w⟩
end Go.Proofs.Ytbdhelekmdpbiaa
