/- IdleLimits, the program's side and the law. -/
import Derived.Test.YtelakibjcihfaaaK4
namespace Go.Proofs.Ytelakibjcihfaaa
open Go.ChangeShapes Go.WideShapes Go.ChangeAt Go.RowKit
set_option linter.unusedVariables false
set_option linter.unusedSimpArgs false

set_option maxRecDepth 100000 in
set_option maxHeartbeats 4000000 in
theorem implIdleLimits_c (A : Option Addr) (n : Nat) (z : List Int) (hz : z.length = n * 3) (hn : n ≤ 1048576) (w : World) (hr : RowI w A z) : Calls Try.prog 39 #[.slice A n n] w fun e w' => ∃ v, e = .returned (.tuple #[v, .int .i64 (fIdle z n).2]) ∧ OwnI 2 w' w.heap.size v (fIdle z n).1 ∧ Below w.heap.size w w' := by
  cases hh : limsB z n
  · have HF := Lib.hid (show fIdle z n = ([], 1) by simp [fIdle, hh])
    go_enter Try.func39, Try.ntmps39
    go_wp2_with (go_at_call 21; (refine (implValidLimits_c _ n _ z hz hn _ hr).mono ?_); rintro e w1 ⟨rfl, hb1⟩)
    go_returns
    exact ⟨_, by (rw [HF.out]) <;> rfl, by rw [HF.out]; exact OwnI.nil _ _ _, hb1⟩
  have HF := Lib.hid (show fIdle z n = (idleTo z n n, 0) by simp [fIdle, hh])
  have HH := Lib.hid (limsB_true hh)
  have n8 := HH.out.1
  go_enter Try.func39, Try.ntmps39
  go_wp2_with (go_at_call 21; (refine (implValidLimits_c _ n _ z hz hn _ hr).mono ?_); rintro e w1 ⟨rfl, hb1⟩; have hr1 := hr.below hb1; have z1 : w.heap.size ≤ w1.heap.size := hb1.size)
  go_loopw [4, 14] (fun v i wr => ∃ k : Nat, k ≤ n ∧ i = .int .i64 k ∧ Hid (OwnI 2 wr w1.heap.size v (idleTo z n k)) ∧ Below w1.heap.size w1 wr) (fun _ i _ => n - (intOf i).toNat)
  case atStart => exact ⟨0, by omega, rfl, Lib.hid (OwnI.nil _ _ _), Below.refl _ _⟩
  case round =>
    obtain ⟨k, hk, rfl, HO, hBr⟩ := hrel
    have hsr := hBr.size
    have hkl := idleTo_len z n k
    by_cases hlt : k < n
    · have i1 : (k : Int) < n := by omega
      have hrk := hr1.below hBr
      obtain ⟨b, off, rfl, hbb, d1, d2, d3⟩ := hrk.tri hz hlt
      obtain ⟨wo, rfl⟩ : ∃ wo : World, wo = wr := ⟨_, rfl⟩
      have k0 : (wo.alloc (.cells #[.int .i64 (tA z k), .int .i64 (tB z k), .int .i64 (tC z k)] 65)).cell? ⟨wo.heap.size, 0, none⟩ = some (.int .i64 (tA z k)) := by simp
      have k1 : (wo.alloc (.cells #[.int .i64 (tA z k), .int .i64 (tB z k), .int .i64 (tC z k)] 65)).cell? ⟨wo.heap.size, 1, none⟩ = some (.int .i64 (tB z k)) := by simp
      have k2 : (wo.alloc (.cells #[.int .i64 (tA z k), .int .i64 (tB z k), .int .i64 (tC z k)] 65)).cell? ⟨wo.heap.size, 2, none⟩ = some (.int .i64 (tC z k)) := by simp
      have hOW := HO.out.alloc (.cells #[.int .i64 (tA z k), .int .i64 (tB z k), .int .i64 (tC z k)] 65)
      have hrW := hrk.alloc (.cells #[.int .i64 (tA z k), .int .i64 (tB z k), .int .i64 (tC z k)] 65)
      have hBW := hBr.alloc (o := .cells #[.int .i64 (tA z k), .int .i64 (tB z k), .int .i64 (tC z k)] 65) (by omega)
      have hsW : (wo.alloc (.cells #[.int .i64 (tA z k), .int .i64 (tB z k), .int .i64 (tC z k)] 65)).heap.size = wo.heap.size + 1 := by simp
      go_wp2
      generalize (wo.alloc (.cells #[.int .i64 (tA z k), .int .i64 (tB z k), .int .i64 (tC z k)] 65)) = W at k0 k1 k2 hOW hrW hBW hsW ⊢
      have HOW := Lib.hid hOW
      clear hOW hrk HO d1 d2 d3 hbb
      go_loopw [4, 21] (fun v i wr => ∃ j : Nat, j ≤ n ∧ i = .int .i64 j ∧ Hid (∀ t, t < j → betAt z k t = false) ∧ Hid (OwnI 2 wr w1.heap.size v (idleTo z n k)) ∧ Below W.heap.size W wr) (fun _ i _ => n - (intOf i).toNat)
      case atStart => exact ⟨0, by omega, rfl, Lib.hid (fun t ht => by omega), HOW, Below.refl _ _⟩
      case round =>
        obtain ⟨j, hj1, rfl, HP, HOi, hBi⟩ := hrel
        have hsi := hBi.size
        have g0 := (hBi.cell (p := ⟨wo.heap.size, 0, none⟩) (show wo.heap.size < W.heap.size by omega)).trans k0
        have g1 := (hBi.cell (p := ⟨wo.heap.size, 1, none⟩) (show wo.heap.size < W.heap.size by omega)).trans k1
        have g2 := (hBi.cell (p := ⟨wo.heap.size, 2, none⟩) (show wo.heap.size < W.heap.size by omega)).trans k2
        have hBw : Below w1.heap.size w1 wr := hBW.trans (hBi.mono (by omega))
        have gl : wo.heap.size < wr.heap.size := by omega
        by_cases hjn : j < n
        · have j1 : (j : Int) < n := by omega
          obtain ⟨b', off', e', hbb', c1, c2, c3⟩ := (hrW.below hBi).tri hz hjn
          simp only [Option.some.injEq, Addr.mk.injEq, and_true] at e'
          obtain ⟨rfl, rfl⟩ := e'
          by_cases hjk : j = k
          · subst hjk
            have q1 : ((j : Int) != (j : Int)) = false := by simp
            have HN : Hid (∀ t, t < j + 1 → betAt z j t = false) := Lib.hid (fun t ht => by
              rcases Nat.lt_or_ge t j with h1 | h1
              · exact HP.out t h1
              · obtain rfl : t = j := by omega
                simp [betAt])
            go_wp2
            go_roundw
            case rel => exact ⟨j + 1, by omega, by go_num, HN, Lib.hid (HOi.out.alloc _), hBi.alloc (by omega) _⟩
            case measure => simp [intOf]; omega
          · have q1 : ((j : Int) != (k : Int)) = true := by simp; omega
            have HB := Lib.hid (show betI (tA z j) (tB z j) (tC z j) (tA z k) (tB z k) (tC z k) (decide (j < k)) = betAt z k j by simp [betAt, hjk])
            cases hp : betAt z k j
            · rw [hp] at HB
              have HN : Hid (∀ t, t < j + 1 → betAt z k t = false) := Lib.hid (fun t ht => by
                rcases Nat.lt_or_ge t j with h1 | h1
                · exact HP.out t h1
                · obtain rfl : t = j := by omega
                  exact hp)
              go_wp2_with (go_at_call 64; ((refine (isBetter_c _ _ _ _ _ _ _ _).mono ?_); rw [HB.out]; rintro e wc ⟨rfl, hc⟩; have HO1 := Lib.hid ((HOi.out.alloc _).below hc); have hsc := hc.size; (try simp only [World.size_alloc] at hsc); have hcc : Below w1.heap.size wr wc := ((Below.refl _ _).alloc (by omega) _).trans (hc.mono (by simp; omega)); have hci : Below W.heap.size wr wc := ((Below.refl _ _).alloc (by omega) _).trans (hc.mono (by simp; omega))))
              go_roundw
              case rel => exact ⟨j + 1, by omega, by go_num, HN, HO1, hBi.trans hci⟩
              case measure => simp [intOf]; omega
            · rw [hp] at HB
              have HN := Lib.hid (idleTo_in (show idleB z n k = true from anyN_hit hjn hp))
              go_wp2_with (first
                | (at_builtin; refine wpList_push rfl _ _ 43 rfl Try.underlying43 int64_info (k : Int) rfl HO1.out rfl rfl (by omega) (by omega) ?_; intro v' w3 hO' hB'; have HO' := Lib.hid hO'; clear hO')
                | (go_at_call 64; ((refine (isBetter_c _ _ _ _ _ _ _ _).mono ?_); rw [HB.out]; rintro e wc ⟨rfl, hc⟩; have HO1 := Lib.hid ((HOi.out.alloc _).below hc); have hsc := hc.size; (try simp only [World.size_alloc] at hsc); have hcc : Below w1.heap.size wr wc := ((Below.refl _ _).alloc (by omega) _).trans (hc.mono (by simp; omega)); have hci : Below W.heap.size wr wc := ((Below.refl _ _).alloc (by omega) _).trans (hc.mono (by simp; omega)))))
              go_roundw
              case rel => exact ⟨k + 1, by omega, by go_num, Lib.hid (by rw [HN.out]; exact HO'.out), (hBw.trans hcc).trans hB'⟩
              case measure => simp [intOf]; omega
        · obtain rfl : j = n := by omega
          have HN := Lib.hid (idleTo_out (show idleB z j k = false from anyN_no HP.out))
          go_wp2
          go_roundw
          case rel => exact ⟨k + 1, by omega, by go_num, Lib.hid (by rw [HN.out]; exact HOi.out), hBw⟩
          case measure => simp [intOf]; omega
    · obtain rfl : k = n := by omega
      go_wp2
      go_returns
      exact ⟨_, by (rw [HF.out]) <;> rfl, by rw [HF.out]; exact HO.out.mono (by omega), hb1.trans (hBr.mono (by omega))⟩
set_option maxHeartbeats 4000000 in
theorem walk_FnExactIdleLimits (A : Option Addr) (nA cA : Nat) (zA : List Int) (w : World) (hA : StructArg 3 w A nA zA) : Calls Try.prog 10 #[.slice A nA cA] w fun e w' => e = .returned (.bool true) ∧ Below w.heap.size w w' := by
  obtain ⟨hzA, hxA, hrA, _⟩ := hA
  have HZA := Lib.hid (szLimitS_g A nA cA (1048576) (by omega) (by omega) hxA)
  rcases Int.lt_or_le (1048576) (nA : Int) with hqA | hqA
  · rw [if_neg (by omega)] at HZA
    go_enter Try.func10, Try.ntmps10
    go_wp2_with (go_at_call 18; (refine (HZA.out _).mono ?_); rintro e w0 ⟨rfl, rfl⟩)
    go_returns
    refine ⟨by simp, ?_⟩
    exact Below.refl _ _
  rw [if_pos hqA] at HZA
  have hnA : nA ≤ 1048576 := by omega
  have hl : (fIdle zA nA).1.length ≤ nA := by
    unfold fIdle
    split
    · exact idleTo_len zA nA nA
    · simp
  obtain ⟨xs, hx⟩ : ∃ xs, (fIdle zA nA).1 = xs := ⟨_, rfl⟩
  obtain ⟨q, hq⟩ : ∃ q, (fIdle zA nA).2 = q := ⟨_, rfl⟩
  have hs := fun (w : World) (B : Option Addr) (hB : RowI w B zA) => specIdleLimits_c B nA zA hzA hnA w hB
  have hi := fun (w : World) (B : Option Addr) (hB : RowI w B zA) => implIdleLimits_c B nA zA hzA hnA w hB
  simp only [hx, hq] at hs hi hl
  have HS := Lib.hid (fun (w : World) {B : Option Addr} hB => hs w B hB)
  have HI := Lib.hid (fun (w : World) {B : Option Addr} hB => hi w B hB)
  clear hs hi hx hq
  have hn : xs.length ≤ 1048576 := by omega
  go_enter Try.func10, Try.ntmps10
  go_wp2_with (go_at_call 18; (refine (HZA.out _).mono ?_); rintro e w0 ⟨rfl, rfl⟩)
  go_wp2_with (go_at_call 20; (refine (toLimitS_c A nA _ zA hzA hnA _ hrA).mono ?_); rintro e w1 ⟨rfl, hSA, _, hb1⟩; have z1 : w.heap.size ≤ w1.heap.size := hb1.size; have ch1_w : Below w.heap.size w w1 := hb1)
  go_wp2_with (go_at_call 38; (refine (HS.out _ hSA).mono ?_); rintro e w2 ⟨v0, rfl, hO0, hb2⟩; obtain ⟨A0, c0, rfl, hV0⟩ := hO0.slice; have z2 : w1.heap.size ≤ w2.heap.size := hb2.size; have ch2_w : Below w.heap.size w w2 := ch1_w.trans ((hb2).mono (by omega)); have ch2_w1 : Below w1.heap.size w1 w2 := hb2)
  go_wp2_with (go_at_call 20; (refine (toLimitS_m A nA _ zA hzA hnA _ (hrA.below ch2_w)).mono ?_); rintro e w3 ⟨rfl, hXA, hMA, hb3⟩; have z3 : w2.heap.size ≤ w3.heap.size := hb3.size; have zl3 : w2.heap.size < w3.heap.size := hMA.1; have HMA := Lib.hid hMA; clear hMA; have ch3_w : Below w.heap.size w w3 := ch2_w.trans ((hb3).mono (by omega)); have ch3_w2 : Below w2.heap.size w2 w3 := hb3)
  go_wp2_with (go_at_call 39; (refine (HI.out _ hXA).mono ?_); rintro e w4 ⟨v1, rfl, hO1, hb4⟩; obtain ⟨A1, c1, rfl, hG⟩ := hO1.slice; have z4 : w3.heap.size ≤ w4.heap.size := hb4.size; have HO1 := Lib.hid hO1; clear hO1; have ch4_w : Below w.heap.size w w4 := ch3_w.trans ((hb4).mono (by omega)); have ch4_w2 : Below w2.heap.size w2 w4 := ch3_w2.trans ((hb4).mono (by omega)); have ch4_w3 : Below w3.heap.size w3 w4 := hb4)
  go_wp2_with (go_at_call 28; (refine (eqInt64S_c _ _ _ _ xs hn _ hG (hV0.below ch4_w2)).mono ?_); rintro e wq ⟨rfl, n1, rfl⟩; have ch5_w : Below w.heap.size w (w4.drewN n1) := bdrewN ch4_w n1; have ch5_w2 : Below w2.heap.size w2 (w4.drewN n1) := bdrewN ch4_w2 n1; have ch5_w3 : Below w3.heap.size w3 (w4.drewN n1) := bdrewN ch4_w3 n1; have ch5_w4 : Below w4.heap.size w4 (w4.drewN n1) := bdrewN (Below.refl _ _) n1)
  have zq : ((w4.drewN n1)).heap.size = w4.heap.size := rfl
  go_wp2_with (go_at_call 20; (refine (toLimitS_c A nA _ zA hzA hnA _ (hrA.below ch5_w)).mono ?_); rintro e w5 ⟨rfl, hYA, _, hb5⟩; have z5 : (w4.drewN n1).heap.size ≤ w5.heap.size := hb5.size; have ch6_w : Below w.heap.size w w5 := ch5_w.trans ((hb5).mono (by omega)); have ch6_w2 : Below w2.heap.size w2 w5 := ch5_w2.trans ((hb5).mono (by omega)); have ch6_w3 : Below w3.heap.size w3 w5 := ch5_w3.trans ((hb5).mono (by omega)); have ch6_w4 : Below w4.heap.size w4 w5 := ch5_w4.trans ((hb5).mono (by omega)))
  go_wp2_with (go_at_call 22; (refine (eqLimitS_c _ _ nA _ _ zA hzA hnA _ (hXA.below ch6_w3) hYA).mono ?_); rintro e w6 ⟨rfl, hb6⟩; have z6 : w5.heap.size ≤ w6.heap.size := hb6.size; have ch7_w : Below w.heap.size w w6 := ch6_w.trans ((hb6).mono (by omega)); have ch7_w2 : Below w2.heap.size w2 w6 := ch6_w2.trans ((hb6).mono (by omega)); have ch7_w3 : Below w3.heap.size w3 w6 := ch6_w3.trans ((hb6).mono (by omega)); have ch7_w4 : Below w4.heap.size w4 w6 := ch6_w4.trans ((hb6).mono (by omega)))
  go_wp2_with (go_at_call 40; (refine (markLimitS_c _ nA _ (1) (by omega) (by omega) hnA _ (HMA.out.below ch7_w3)).mono ?_); rintro e w7 ⟨rfl, hg7⟩; have z7 : w6.heap.size ≤ w7.heap.size := hg7.size; have HG0 := Lib.hid (OwnI.kept (HO1.out.below ch7_w4) hg7 (by omega)); have ch8_w : Below w.heap.size w w7 := below_grown ch7_w hg7 (by omega) (by omega); have ch8_w2 : Below w2.heap.size w2 w7 := below_grown ch7_w2 hg7 (by omega) (by omega))
  go_wp2_with (go_at_call 28; (refine (eqInt64S_c _ _ _ _ xs hn _ (HG0.out).row.2 (hV0.below ch8_w2)).mono ?_); rintro e wq ⟨rfl, n2, rfl⟩; have ch9_w : Below w.heap.size w (w7.drewN n2) := bdrewN ch8_w n2; have ch9_w2 : Below w2.heap.size w2 (w7.drewN n2) := bdrewN ch8_w2 n2)
  go_wp2_with (go_at_call 29; (refine (markInt64S_c _ xs 1 w3.heap.size (by omega) (by omega) hn _ (OwnI.drewN (HG0.out) _)).mono ?_); rintro e w8 ⟨rfl, ys, hy, hm, hO6, hb8⟩; have HM := Lib.hid (show Marked 1 ys ys.length from by rw [hy]; exact hm); have HR := Lib.hid hO6.row.2; clear hm hO6; have z8 : w7.heap.size ≤ w8.heap.size := hb8.size; have ch10_w : Below w.heap.size w w8 := ch9_w.trans ((hb8).mono (by omega)); have ch10_w2 : Below w2.heap.size w2 w8 := ch9_w2.trans ((hb8).mono (by omega)))
  have hyn : ys.length ≤ 1048576 := by omega
  go_wp2_with (go_at_call 30; (refine (heldInt64S_c A1 xs.length _ ys 1 hy (by omega) (by omega) hyn HM.out _ (HR.out)).mono ?_); rintro e wh ⟨rfl, rfl⟩)
  go_wp2_with (go_at_call 20; (refine (toLimitS_c A nA _ zA hzA hnA _ (hrA.below ch10_w)).mono ?_); rintro e w9 ⟨rfl, hTA, _, hb9⟩; have z9 : w8.heap.size ≤ w9.heap.size := hb9.size; have ch11_w : Below w.heap.size w w9 := ch10_w.trans ((hb9).mono (by omega)); have ch11_w2 : Below w2.heap.size w2 w9 := ch10_w2.trans ((hb9).mono (by omega)); have ch11_w8 : Below w8.heap.size w8 w9 := hb9)
  go_wp2_with (go_at_call 39; (refine (HI.out _ hTA).mono ?_); rintro e w10 ⟨v2, rfl, hO2, hb10⟩; obtain ⟨A2, c2, rfl, hV2⟩ := hO2.slice; have z10 : w9.heap.size ≤ w10.heap.size := hb10.size; have ch12_w : Below w.heap.size w w10 := ch11_w.trans ((hb10).mono (by omega)); have ch12_w2 : Below w2.heap.size w2 w10 := ch11_w2.trans ((hb10).mono (by omega)); have ch12_w8 : Below w8.heap.size w8 w10 := ch11_w8.trans ((hb10).mono (by omega)); have ch12_w9 : Below w9.heap.size w9 w10 := hb10)
  go_wp2_with (go_at_call 28; (refine (eqInt64S_c _ _ _ _ xs hn _ hV2 (hV0.below ch12_w2)).mono ?_); rintro e wq ⟨rfl, n3, rfl⟩; have ch13_w : Below w.heap.size w (w10.drewN n3) := bdrewN ch12_w n3; have ch13_w2 : Below w2.heap.size w2 (w10.drewN n3) := bdrewN ch12_w2 n3; have ch13_w8 : Below w8.heap.size w8 (w10.drewN n3) := bdrewN ch12_w8 n3; have ch13_w9 : Below w9.heap.size w9 (w10.drewN n3) := bdrewN ch12_w9 n3)
  go_wp2_with (go_at_call 30; (refine (heldInt64S_c A1 xs.length _ ys 1 hy (by omega) (by omega) hyn HM.out _ ((HR.out.below ch13_w8))).mono ?_); rintro e wh ⟨rfl, rfl⟩)
  go_returns
  exact ⟨by simp, ch13_w⟩
end Go.Proofs.Ytelakibjcihfaaa
