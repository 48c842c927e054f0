/- FnLimits: the law. -/
import Derived.Test.YteddchnmjppdeaaD7
namespace Go.Proofs.Yteddchnmjppdeaa
open Go.ChangeShapes Go.WideShapes Go.ChangeAt Go.RowKit
set_option linter.unusedVariables false
set_option linter.unusedSimpArgs false

set_option maxRecDepth 100000 in
set_option maxHeartbeats 8000000 in
theorem walk_FnLimits (A : Option Addr) (n c : Nat) (C : Option Addr) (m c' : Nat) (w : World) (hA : ByteArg w A n) (hC : ByteArg w C m) : Calls Try.prog 6 #[.slice A n c, .slice C m c'] w fun e w' => e = .returned (.bool true) ∧ Below w.heap.size w w' := by
  obtain ⟨hn9, hrA⟩ := hA
  obtain ⟨hm9, hrC⟩ := hC
  rcases Nat.lt_or_ge 1048576 n with hn | hn
  · go_enter Try.func6, Try.ntmps6
    go_wp2_with (go_at_call 15; (refine (b10Long_y hn _ _ _).mono ?_); rintro e w' ⟨rfl, rfl⟩)
    go_returns
    exact ⟨by simp, Below.refl _ _⟩
  rcases Nat.lt_or_ge 1048576 m with hm | hm
  · go_enter Try.func6, Try.ntmps6
    go_wp2_with (first
      | (go_at_call 15; (with_reducible refine (b10Long_n hn A c _).mono ?_); rintro e w' ⟨rfl, rfl⟩)
      | (go_at_call 15; (with_reducible refine (b10Long_y hm C c' _).mono ?_); rintro e w' ⟨rfl, rfl⟩))
    go_returns
    exact ⟨by simp, Below.refl _ _⟩
  have HRC := Lib.hid hrC
  clear hrC
  go_enter Try.func6, Try.ntmps6
  go_wp2_with (first
    | (go_at_call 15; (with_reducible refine (b10Long_n hn A c _).mono ?_); rintro e w' ⟨rfl, rfl⟩)
    | (go_at_call 15; (with_reducible refine (b10Long_n hm C c' _).mono ?_); rintro e w' ⟨rfl, rfl⟩)
    | (go_at_call 21; (with_reducible refine (DrawSpeedAllowed_c A n c hn _ hrA).mono ?_); rintro e w1 ⟨⟨A1, n1, c1, z1, r, d, x, s, rfl, hz1, ⟨hn1, hcp1⟩, hR1⟩, hb1⟩))
  have B1 := Box3.new w1 40 r d x
  have hR2 := hR1.alloc (.cells #[.int .i64 r, .int .i64 d, .int .i64 x] 40)
  have hb2 : Below w.heap.size w (w1.alloc (.cells #[.int .i64 r, .int .i64 d, .int .i64 x] 40)) := hb1.alloc hb1.size _
  have k2 : w1.heap.size < (w1.alloc (.cells #[.int .i64 r, .int .i64 d, .int .i64 x] 40)).heap.size := by simp
  have z1s := hb1.size
  generalize w1.alloc (.cells #[.int .i64 r, .int .i64 d, .int .i64 x] 40) = w2 at *
  generalize hbx : w1.heap.size = bx at *
  have B1 := Lib.hid B1
  have HB2 := Lib.hid hb2
  have HR2 := Lib.hid hR2
  clear hb1 hb2 hR1 hR2 hbx
  obtain ⟨v, q, hF⟩ : ∃ v q, fAllow z1 n1 r d x s = (v, q) := ⟨_, _, rfl⟩
  have HF := Lib.hid hF
  by_cases hq : q = 0
  · subst hq
    obtain ⟨F1, F2, F3, F4, F5, F6, F7, F8, F9, F10, F11⟩ := fAllow_ok (z := z1) (n := n1) (r := r) (d := d) (x := x) (v := s) (by rw [hF])
    have Fv : v = allowTo z1 r d x s n1 := by rw [← F5, hF]
    rw [← Fv] at F6 F7 F8 F10 F11
    have F9l := idleTo_len z1 n1 n1
    have F9p := idleTo_pick z1 n1 n1
    generalize idleTo z1 n1 n1 = ids at *
    have H8 := Lib.hid F8
    have H9 := Lib.hid F9
    have H10 := Lib.hid F10
    have HP := Lib.hid F9p
    have HI := Lib.hid (show ∀ k, k < n1 → (ids.any (fun y => decide (y = (k : Int)))) = idleB z1 n1 k from fun k hk => by rw [F9p, pickTo_any]; simp [hk])
    have hvs : ¬ s < v := by omega
    have hv0 : ¬ v < 0 := by omega
    clear hF F1 F2 F3 F4 F5 F8 F9 F10 F11 F9p Fv
    have hsz2 := HB2.out.size
    go_wp2_with (first
      | (go_at_call 22; (with_reducible refine (implSA_v HF.out hz1 (by omega) _ HR2.out).mono ?_); rintro e w3 ⟨rfl, hb3⟩; have s3 := hb3.size; have HB3 := Lib.hid (HB2.out.trans (hb3.mono (by omega))); have HR3 := Lib.hid (HR2.out.below hb3); have B3 := Lib.hid (B1.out.below hb3); clear hb3; obtain ⟨l3, c30, c31, c32, _⟩ := B3.out)
      | (go_at_call 22; (with_reducible refine (implSA_v H8.out hz1 (by omega) _ HR3.out).mono ?_); rintro e w4 ⟨rfl, hb4⟩; have s4 := hb4.size; have HB4 := Lib.hid (HB3.out.trans (hb4.mono (by omega))); have HR4 := Lib.hid (HR3.out.below hb4); have B4 := Lib.hid (B3.out.below hb4); clear hb4 l3 c30 c31 c32; obtain ⟨l4, c40, c41, c42, _⟩ := B4.out)
      | (go_at_call 23; (with_reducible refine (implIL_v H9.out hz1 (by omega) _ HR4.out).mono ?_); rintro e w5 ⟨vi, rfl, hO5, hb5⟩; obtain ⟨A5, c5, rfl, hI5⟩ := hO5.slice; have HO5 := Lib.hid hI5; clear hO5 hI5; have s5 := hb5.size; have HB5 := Lib.hid (HB4.out.trans (hb5.mono (by omega))); have HR5 := Lib.hid (HR4.out.below hb5); have B5 := Lib.hid (B4.out.below hb5); clear hb5 l4 c40 c41 c42; obtain ⟨l5, c50, c51, c52, _⟩ := B5.out)
      | (go_at_call 24; (refine (b10Rises_v HP.out rfl (by omega) _ HO5.out).mono ?_); rintro e w6 ⟨rfl, q6, rfl⟩; have HB6 := Lib.hid (show Below w.heap.size w (w5.drewN q6) from bdrewN HB5.out q6); have HR6 := Lib.hid (show RowI (w5.drewN q6) A1 z1 from HR5.out); have HO6 := Lib.hid (show RowI (w5.drewN q6) A5 ids from HO5.out); have B6 := Lib.hid (show Box3 bx (w5.drewN q6) r d x from B5.out); have hs6 : (w5.drewN q6).heap.size = w5.heap.size := rfl; generalize w5.drewN q6 = w6 at *; clear l5 c50 c51 c52; obtain ⟨l6, c60, c61, c62, _⟩ := B6.out))
    go_loopw [14, 15] (fun v i wr => ∃ k : Nat, k ≤ n1 ∧ i = .int .i64 k ∧ Hid (OwnT 48 wr w6.heap.size v (restN z1 n1 k) (restTo z1 n1 k)) ∧ Below w6.heap.size w6 wr) (fun _ i _ => n1 - (intOf i).toNat)
    case atStart => exact ⟨0, by omega, rfl, Lib.hid (by rw [← hs6]; exact OwnT.lit _ _ _ (Nat.le_refl _)), (Below.refl _ _).alloc (Nat.le_refl _) _⟩
    case round =>
      obtain ⟨k, hk, rfl, HO, hBr⟩ := hrel
      have hsr := hBr.size
      have HRr := Lib.hid (HR6.out.below hBr)
      have HOr := Lib.hid (HO6.out.below hBr)
      have Br := Lib.hid (B6.out.below hBr)
      clear l6 c60 c61 c62
      obtain ⟨l6, c60, c61, c62, _⟩ := Br.out
      have hrk := restN_le z1 n1 k
      by_cases hlt : k < n1
      · have i1 : (k : Int) < n1 := by omega
        obtain ⟨b, off, rfl, hbb, d1, d2, d3⟩ := HRr.out.tri hz1 hlt
        cases hp : idleB z1 n1 k
        · have HN := Lib.hid (show restTo z1 n1 (k + 1) = restTo z1 n1 k ++ [tA z1 k, tB z1 k, tC z1 k] ∧ restN z1 n1 (k + 1) = restN z1 n1 k + 1 by simp [restTo, restN, hp])
          go_wp2_with (first
            | (at_builtin; refine wpList_push3 rfl _ _ 38 rfl Try.underlying38 limit_info _ _ _ rfl HO.out rfl rfl (by first | rfl | simp) (by omega) (by first | omega | (simp; omega)) ?_; intro v' w7 hO' hB'; have HO' := Lib.hid hO'; clear hO')
            | (go_at_call 25; (refine (b10Has_v rfl ((HI.out k hlt).trans hp) (by omega) _ HOr.out).mono ?_); rintro e w' ⟨rfl, rfl⟩))
          go_roundw
          case rel => exact ⟨k + 1, by omega, by go_num, Lib.hid (by rw [HN.out.1, HN.out.2]; exact HO'.out), hBr.trans (hB'.mono (by omega))⟩
          case measure => simp [intOf]; omega
        · have HN := Lib.hid (show restTo z1 n1 (k + 1) = restTo z1 n1 k ∧ restN z1 n1 (k + 1) = restN z1 n1 k by simp [restTo, restN, hp])
          go_wp2_with (go_at_call 25; (refine (b10Has_v rfl ((HI.out k hlt).trans hp) (by omega) _ HOr.out).mono ?_); rintro e w' ⟨rfl, rfl⟩)
          go_roundw
          case rel => exact ⟨k + 1, by omega, by go_num, Lib.hid (by rw [HN.out.1, HN.out.2]; exact HO.out), hBr⟩
          case measure => simp [intOf]; omega
      · obtain rfl : k = n1 := by omega
        obtain ⟨A7, c7, rfl, hc7, hR7, _⟩ := HO.out.row
        have HR7 := Lib.hid hR7
        clear hR7
        have hl7 := restTo_len z1 k k
        go_wp2_with (first
          | (go_at_call 26; (with_reducible refine (specSA_v H10.out (restTo_len z1 k k) (by omega) _ HR7.out).mono ?_); rintro e w8 ⟨rfl, hb8⟩; have s8 := hb8.size; have HB8 := Lib.hid ((HB6.out.trans (hBr.mono (by omega))).trans (hb8.mono (by omega))); have HR8 := Lib.hid (HRr.out.below hb8); have B8 := Lib.hid (Br.out.below hb8); clear hb8 l6 c60 c61 c62; obtain ⟨l8, c80, c81, c82, _⟩ := B8.out)
          | (go_at_call 26; (with_reducible refine (specSA_v HF.out hz1 (by omega) _ HR8.out).mono ?_); rintro e w9 ⟨rfl, hb9⟩; have s9 := hb9.size; have HB9 := Lib.hid (HB8.out.trans (hb9.mono (by omega))); clear hb9)
          | (go_at_call 27; (with_reducible refine (DrawHeaterHours_c C m c' hm _ (HRC.out.below HB9.out)).mono ?_); rintro e wh ⟨⟨A2, n2, c2, z2, x2, rfl, hz2, ⟨hn2, hcp2⟩, hR2h⟩, hbh⟩; have sh := hbh.size; have HBh := Lib.hid (HB9.out.trans (hbh.mono HB9.out.size)); have HRh := Lib.hid hR2h; clear hbh hR2h))
        obtain ⟨xs, qh, hFh⟩ : ∃ xs qh, fHeat z2 n2 x2 = (xs, qh) := ⟨_, _, rfl⟩
        have HFh := Lib.hid hFh
        by_cases hqh : qh = 0
        · subst hqh
          obtain ⟨hh, x0, x1, hxs⟩ := fHeat_ok (z := z2) (n := n2) (a := x2) (by rw [hFh])
          rw [hFh] at hxs
          have hxs' : xs = heatTo z2 n2 x2 n2 := hxs
          have hxl := heatTo_len z2 n2 x2 n2
          rw [← hxs'] at hxl
          have HX := Lib.hid (hxs'.trans (heatTo_pick z2 n2 x2 n2))
          have HXI := Lib.hid (show ∀ k, k < n2 → (xs.any (fun y => decide (y = (k : Int)))) = heatB z2 n2 x2 k from fun k hk => by rw [HX.out, pickTo_any]; simp [hk])
          have HH := Lib.hid (hoursB_true hh)
          clear hFh hxs hxs' hh
          go_wp2_with (first
            | (go_at_call 28; (with_reducible refine (implHH_v HFh.out hz2 (by omega) hcp2 _ HRh.out).mono ?_); rintro e wi ⟨vi, rfl, hOi, hbi⟩; obtain ⟨Ai, ci, rfl, hIi⟩ := hOi.slice; have HOi := Lib.hid hIi; clear hOi hIi; have HBi := Lib.hid (HBh.out.trans (hbi.mono HBh.out.size)); have HRi := Lib.hid (HRh.out.below hbi); clear hbi)
            | (go_at_call 24; (refine (b10Rises_v HX.out rfl (by omega) _ HOi.out).mono ?_); rintro e w' ⟨rfl, qi, rfl⟩))
          go_loopw [24] (fun i wr => ∃ (k q : Nat), k ≤ n2 ∧ i = .int .i64 k ∧ wr = wi.drewN q) (fun i _ => n2 - (intOf i).toNat)
          case atStart => exact ⟨0, qi, by omega, rfl, rfl⟩
          case round =>
            obtain ⟨k, q, hk, rfl, rfl⟩ := hrel
            by_cases hlt : k < n2
            · have i1 : (k : Int) < n2 := by omega
              have hsp0 : spanN n2 x2 k ≤ n2 - k ∧ spanN n2 x2 k ≤ x2.toNat + 1 ∧ (spanN n2 x2 k = n2 - k ∨ spanN n2 x2 k = x2.toNat + 1) := by unfold spanN; omega
              go_wp2
              go_loopw [25, 26] (fun v i wi' => ∃ (j q : Nat) (p : Bool), k ≤ j ∧ j ≤ k + spanN n2 x2 k ∧ i = .int .i64 j ∧ v = .bool p ∧ Hid (anyN (fun t => iceAt z2 (k + t)) (j - k) = p) ∧ wi' = wi.drewN q) (fun _ i _ => k + spanN n2 x2 k - (intOf i).toNat)
              case atStart => exact ⟨k, q, false, by omega, by omega, rfl, rfl, Lib.hid (by rw [Nat.sub_self]; rfl), rfl⟩
              case round =>
                obtain ⟨j, q, p, hj0, hj1, rfl, rfl, HP, rfl⟩ := hrel
                by_cases hj : j < k + spanN n2 x2 k
                · have j1 : (j : Int) < n2 := by omega
                  have j2 : (j : Int) ≤ k + x2 := by omega
                  have j3 : decide ((j : Int) < n2) = true := by simp; omega
                  have hjn : j < n2 := by omega
                  obtain ⟨b, off, rfl, hbb, c1, c2, c3⟩ := HRi.out.tri hz2 hjn
                  replace c1 : (wi.drewN q).cell? ⟨b, off + j * 3, none⟩ = some (.int .i64 (tA z2 j)) := c1
                  replace c2 : (wi.drewN q).cell? ⟨b, off + j * 3 + 1, none⟩ = some (.int .i64 (tB z2 j)) := c2
                  have HN : Hid (anyN (fun t => iceAt z2 (k + t)) (j + 1 - k) = (p || kindB 2 (tA z2 j) (tB z2 j) (tC z2 j))) := Lib.hid (by rw [show j + 1 - k = (j - k) + 1 by omega, anyN_succ, HP.out]; unfold iceAt; rw [show k + (j - k) = j by omega])
                  have HK := Lib.hid (show kindB 2 (tA z2 j) (tB z2 j) (tC z2 j) = (decide (0 < tA z2 j) && decide (tB z2 j ≤ 10)) from rfl)
                  have hkj : (k : Int) + x2 ≤ 1000 := by omega
                  cases p
                  · by_cases ha : 0 < tA z2 j
                    · by_cases hb : tB z2 j ≤ 10
                      · have hb' : decide (0 < tA z2 j) = true := by simp; omega
                        have HV := Lib.hid (show anyN (fun t => iceAt z2 (k + t)) (j + 1 - k) = true by rw [HN.out]; simp [HK.out, *])
                        go_wp2
                        go_roundw
                        case rel => exact ⟨j + 1, _, true, by omega, by omega, by go_num, rfl, HV, rfl⟩
                        case measure => simp [intOf]; omega
                      · have hb' : decide (0 < tA z2 j) = true := by simp; omega
                        have HV := Lib.hid (show anyN (fun t => iceAt z2 (k + t)) (j + 1 - k) = false by rw [HN.out]; simp [HK.out, *])
                        go_wp2
                        go_roundw
                        case rel => exact ⟨j + 1, _, false, by omega, by omega, by go_num, rfl, HV, rfl⟩
                        case measure => simp [intOf]; omega
                    · have hb' : decide (0 < tA z2 j) = false := by simp; omega
                      have HV := Lib.hid (show anyN (fun t => iceAt z2 (k + t)) (j + 1 - k) = false by rw [HN.out]; simp [HK.out, *])
                      go_wp2
                      go_roundw
                      case rel => exact ⟨j + 1, _, false, by omega, by omega, by go_num, rfl, HV, rfl⟩
                      case measure => simp [intOf]; omega
                  · have HV := Lib.hid (show anyN (fun t => iceAt z2 (k + t)) (j + 1 - k) = true by rw [HN.out]; simp [HK.out, *])
                    go_wp2
                    go_roundw
                    case rel => exact ⟨j + 1, _, true, by omega, by omega, by go_num, rfl, HV, rfl⟩
                    case measure => simp [intOf]; omega
                · obtain rfl : j = k + spanN n2 x2 k := by omega
                  have hP := HP.out
                  rw [show k + spanN n2 x2 k - k = spanN n2 x2 k by omega] at hP
                  change heatB z2 n2 x2 k = p at hP
                  rcases Nat.lt_or_ge (k + spanN n2 x2 k) n2 with hj3 | hj3
                  · have j3 : decide (((k + spanN n2 x2 k : Nat) : Int) < n2) = true := by simp; omega
                    have j4 : ¬ ((k + spanN n2 x2 k : Nat) : Int) ≤ k + x2 := by omega
                    have hpp : (p != p) = false := by cases p <;> rfl
                    go_wp2_with (go_at_call 25; (refine (b10Has_v rfl ((HXI.out k hlt).trans hP) (by omega) (wi.drewN q) HOi.out).mono ?_); rintro e w' ⟨rfl, rfl⟩)
                    go_roundw
                    case rel => exact ⟨k + 1, _, by omega, by go_num, rfl⟩
                    case measure => simp [intOf]; omega
                  · have j3 : decide (((k + spanN n2 x2 k : Nat) : Int) < n2) = false := by simp; omega
                    have hpp : (p != p) = false := by cases p <;> rfl
                    go_wp2_with (go_at_call 25; (refine (b10Has_v rfl ((HXI.out k hlt).trans hP) (by omega) (wi.drewN q) HOi.out).mono ?_); rintro e w' ⟨rfl, rfl⟩)
                    go_roundw
                    case rel => exact ⟨k + 1, _, by omega, by go_num, rfl⟩
                    case measure => simp [intOf]; omega
            · obtain rfl : k = n2 := by omega
              go_wp2
              go_returns
              exact ⟨by simp, bdrewN HBi.out _⟩
        · have HE := Lib.hid (show xs = [] from by have := fHeat_no (z := z2) (n := n2) (a := x2) (by rw [hFh]; exact hqh); rw [hFh] at this; exact this)
          go_wp2_with (go_at_call 28; (with_reducible refine (implHH_v HFh.out hz2 (by omega) hcp2 _ HRh.out).mono ?_); rintro e wi ⟨vi, rfl, hOi, hbi⟩; obtain ⟨Ai, ci, rfl, hIi⟩ := hOi.slice; have HBi := Lib.hid (HBh.out.trans (hbi.mono HBh.out.size)); clear hbi hIi hOi; have hxe : (xs.length : Int) = 0 := (by rw [HE.out]; rfl))
          go_returns
          exact ⟨by simp [hxe], HBi.out⟩
  · go_wp2_with (first
      | (go_at_call 22; (with_reducible refine (implSA_v HF.out hz1 (by omega) _ HR2.out).mono ?_); rintro e w9 ⟨rfl, hb9⟩; have s9 := hb9.size; have HB9 := Lib.hid (HB2.out.trans (hb9.mono (by omega))); clear hb9)
      | (go_at_call 27; (with_reducible refine (DrawHeaterHours_c C m c' hm _ (HRC.out.below HB9.out)).mono ?_); rintro e wh ⟨⟨A2, n2, c2, z2, x2, rfl, hz2, ⟨hn2, hcp2⟩, hR2h⟩, hbh⟩; have sh := hbh.size; have HBh := Lib.hid (HB9.out.trans (hbh.mono HB9.out.size)); have HRh := Lib.hid hR2h; clear hbh hR2h))
    obtain ⟨xs, qh, hFh⟩ : ∃ xs qh, fHeat z2 n2 x2 = (xs, qh) := ⟨_, _, rfl⟩
    have HFh := Lib.hid hFh
    by_cases hqh : qh = 0
    · subst hqh
      obtain ⟨hh, x0, x1, hxs⟩ := fHeat_ok (z := z2) (n := n2) (a := x2) (by rw [hFh])
      rw [hFh] at hxs
      have hxs' : xs = heatTo z2 n2 x2 n2 := hxs
      have hxl := heatTo_len z2 n2 x2 n2
      rw [← hxs'] at hxl
      have HX := Lib.hid (hxs'.trans (heatTo_pick z2 n2 x2 n2))
      have HXI := Lib.hid (show ∀ k, k < n2 → (xs.any (fun y => decide (y = (k : Int)))) = heatB z2 n2 x2 k from fun k hk => by rw [HX.out, pickTo_any]; simp [hk])
      have HH := Lib.hid (hoursB_true hh)
      clear hFh hxs hxs' hh
      go_wp2_with (first
        | (go_at_call 28; (with_reducible refine (implHH_v HFh.out hz2 (by omega) hcp2 _ HRh.out).mono ?_); rintro e wi ⟨vi, rfl, hOi, hbi⟩; obtain ⟨Ai, ci, rfl, hIi⟩ := hOi.slice; have HOi := Lib.hid hIi; clear hOi hIi; have HBi := Lib.hid (HBh.out.trans (hbi.mono HBh.out.size)); have HRi := Lib.hid (HRh.out.below hbi); clear hbi)
        | (go_at_call 24; (refine (b10Rises_v HX.out rfl (by omega) _ HOi.out).mono ?_); rintro e w' ⟨rfl, qi, rfl⟩))
      go_loopw [24] (fun i wr => ∃ (k q : Nat), k ≤ n2 ∧ i = .int .i64 k ∧ wr = wi.drewN q) (fun i _ => n2 - (intOf i).toNat)
      case atStart => exact ⟨0, qi, by omega, rfl, rfl⟩
      case round =>
        obtain ⟨k, q, hk, rfl, rfl⟩ := hrel
        by_cases hlt : k < n2
        · have i1 : (k : Int) < n2 := by omega
          have hsp0 : spanN n2 x2 k ≤ n2 - k ∧ spanN n2 x2 k ≤ x2.toNat + 1 ∧ (spanN n2 x2 k = n2 - k ∨ spanN n2 x2 k = x2.toNat + 1) := by unfold spanN; omega
          go_wp2
          go_loopw [25, 26] (fun v i wi' => ∃ (j q : Nat) (p : Bool), k ≤ j ∧ j ≤ k + spanN n2 x2 k ∧ i = .int .i64 j ∧ v = .bool p ∧ Hid (anyN (fun t => iceAt z2 (k + t)) (j - k) = p) ∧ wi' = wi.drewN q) (fun _ i _ => k + spanN n2 x2 k - (intOf i).toNat)
          case atStart => exact ⟨k, q, false, by omega, by omega, rfl, rfl, Lib.hid (by rw [Nat.sub_self]; rfl), rfl⟩
          case round =>
            obtain ⟨j, q, p, hj0, hj1, rfl, rfl, HP, rfl⟩ := hrel
            by_cases hj : j < k + spanN n2 x2 k
            · have j1 : (j : Int) < n2 := by omega
              have j2 : (j : Int) ≤ k + x2 := by omega
              have j3 : decide ((j : Int) < n2) = true := by simp; omega
              have hjn : j < n2 := by omega
              obtain ⟨b, off, rfl, hbb, c1, c2, c3⟩ := HRi.out.tri hz2 hjn
              replace c1 : (wi.drewN q).cell? ⟨b, off + j * 3, none⟩ = some (.int .i64 (tA z2 j)) := c1
              replace c2 : (wi.drewN q).cell? ⟨b, off + j * 3 + 1, none⟩ = some (.int .i64 (tB z2 j)) := c2
              have HN : Hid (anyN (fun t => iceAt z2 (k + t)) (j + 1 - k) = (p || kindB 2 (tA z2 j) (tB z2 j) (tC z2 j))) := Lib.hid (by rw [show j + 1 - k = (j - k) + 1 by omega, anyN_succ, HP.out]; unfold iceAt; rw [show k + (j - k) = j by omega])
              have HK := Lib.hid (show kindB 2 (tA z2 j) (tB z2 j) (tC z2 j) = (decide (0 < tA z2 j) && decide (tB z2 j ≤ 10)) from rfl)
              have hkj : (k : Int) + x2 ≤ 1000 := by omega
              cases p
              · by_cases ha : 0 < tA z2 j
                · by_cases hb : tB z2 j ≤ 10
                  · have hb' : decide (0 < tA z2 j) = true := by simp; omega
                    have HV := Lib.hid (show anyN (fun t => iceAt z2 (k + t)) (j + 1 - k) = true by rw [HN.out]; simp [HK.out, *])
                    go_wp2
                    go_roundw
                    case rel => exact ⟨j + 1, _, true, by omega, by omega, by go_num, rfl, HV, rfl⟩
                    case measure => simp [intOf]; omega
                  · have hb' : decide (0 < tA z2 j) = true := by simp; omega
                    have HV := Lib.hid (show anyN (fun t => iceAt z2 (k + t)) (j + 1 - k) = false by rw [HN.out]; simp [HK.out, *])
                    go_wp2
                    go_roundw
                    case rel => exact ⟨j + 1, _, false, by omega, by omega, by go_num, rfl, HV, rfl⟩
                    case measure => simp [intOf]; omega
                · have hb' : decide (0 < tA z2 j) = false := by simp; omega
                  have HV := Lib.hid (show anyN (fun t => iceAt z2 (k + t)) (j + 1 - k) = false by rw [HN.out]; simp [HK.out, *])
                  go_wp2
                  go_roundw
                  case rel => exact ⟨j + 1, _, false, by omega, by omega, by go_num, rfl, HV, rfl⟩
                  case measure => simp [intOf]; omega
              · have HV := Lib.hid (show anyN (fun t => iceAt z2 (k + t)) (j + 1 - k) = true by rw [HN.out]; simp [HK.out, *])
                go_wp2
                go_roundw
                case rel => exact ⟨j + 1, _, true, by omega, by omega, by go_num, rfl, HV, rfl⟩
                case measure => simp [intOf]; omega
            · obtain rfl : j = k + spanN n2 x2 k := by omega
              have hP := HP.out
              rw [show k + spanN n2 x2 k - k = spanN n2 x2 k by omega] at hP
              change heatB z2 n2 x2 k = p at hP
              rcases Nat.lt_or_ge (k + spanN n2 x2 k) n2 with hj3 | hj3
              · have j3 : decide (((k + spanN n2 x2 k : Nat) : Int) < n2) = true := by simp; omega
                have j4 : ¬ ((k + spanN n2 x2 k : Nat) : Int) ≤ k + x2 := by omega
                have hpp : (p != p) = false := by cases p <;> rfl
                go_wp2_with (go_at_call 25; (refine (b10Has_v rfl ((HXI.out k hlt).trans hP) (by omega) (wi.drewN q) HOi.out).mono ?_); rintro e w' ⟨rfl, rfl⟩)
                go_roundw
                case rel => exact ⟨k + 1, _, by omega, by go_num, rfl⟩
                case measure => simp [intOf]; omega
              · have j3 : decide (((k + spanN n2 x2 k : Nat) : Int) < n2) = false := by simp; omega
                have hpp : (p != p) = false := by cases p <;> rfl
                go_wp2_with (go_at_call 25; (refine (b10Has_v rfl ((HXI.out k hlt).trans hP) (by omega) (wi.drewN q) HOi.out).mono ?_); rintro e w' ⟨rfl, rfl⟩)
                go_roundw
                case rel => exact ⟨k + 1, _, by omega, by go_num, rfl⟩
                case measure => simp [intOf]; omega
        · obtain rfl : k = n2 := by omega
          go_wp2
          go_returns
          exact ⟨by simp, bdrewN HBi.out _⟩
    · have HE := Lib.hid (show xs = [] from by have := fHeat_no (z := z2) (n := n2) (a := x2) (by rw [hFh]; exact hqh); rw [hFh] at this; exact this)
      go_wp2_with (go_at_call 28; (with_reducible refine (implHH_v HFh.out hz2 (by omega) hcp2 _ HRh.out).mono ?_); rintro e wi ⟨vi, rfl, hOi, hbi⟩; obtain ⟨Ai, ci, rfl, hIi⟩ := hOi.slice; have HBi := Lib.hid (HBh.out.trans (hbi.mono HBh.out.size)); clear hbi hIi hOi; have hxe : (xs.length : Int) = 0 := (by rw [HE.out]; rfl))
      go_returns
      exact ⟨by simp [hxe], HBi.out⟩
end Go.Proofs.Yteddchnmjppdeaa
