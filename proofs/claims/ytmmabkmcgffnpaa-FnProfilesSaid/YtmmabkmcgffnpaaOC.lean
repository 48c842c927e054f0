/- FnProfiles. -/
import Derived.Test.YtmmabkmcgffnpaaOB
import Derived.Deep.CutRange
namespace Go.Proofs.Ytmmabkmcgffnpaa
open Go.ChangeShapes Go.WideShapes Go.ChangeAt Go.RowKit
set_option linter.unusedVariables false
set_option linter.unusedSimpArgs false

/-- What a law's argument that is a slice of bytes gives. -/
def ByteArg (W : World) (A : Option Addr) (n : Nat) : Prop := n ≤ 9223372036854775807 ∧ RowB W A n
theorem byteRow_of_trod {H : Type} {enc : TypeId × Value → H} {P : Program} {W : World} {t e : TypeId} {A : Option Addr} {n c : Nat} {d : DataW H} {p : List MemPlace} (ht : P.underlying t = some (.slice e)) (he : P.underlying e = some (.int .u8)) (hC : P.cellsOf e = 1)
    (h : DataW.Trod enc P W 0 (fun _ => true) true t (.slice A n c) d p) : ByteArg W A n := by
  obtain ⟨fuel, hf⟩ := h
  rcases open_ints ht he hC hf with ⟨hcs, _⟩ | ⟨x, l, cc, zs, hcs, _, hl, hm, hz, _, hcell, hwz⟩
  · simp [Value.cells] at hcs
    obtain ⟨rfl, rfl, rfl⟩ := hcs
    exact ⟨by omega, fun h => by omega⟩
  · simp [Value.cells] at hcs
    obtain ⟨rfl, rfl, rfl⟩ := hcs
    unfold maxLen at hm
    have hlen : zs.length = c := by simpa using hz
    refine ⟨by omega, fun hn => ?_⟩
    obtain ⟨b, off, spot⟩ := x
    have hc0 := hcell 0 (by omega)
    have hspot : spot = none := by simpa [Addr.add] using World.cell?_spot hc0
    subst hspot
    have hc' : ∀ i, i < zs.length → W.cell? ⟨b, off + i, none⟩ = some (.int .u8 (zs.getD i 0)) := fun i hi => by
      have := hcell i hi
      unfold Addr.add at this
      by_cases h0 : i = 0
      · subst h0; simpa using this
      · simpa [h0] using this
    refine ⟨b, off, rfl, lt_of_cell (hc' 0 (by omega)), fun i hi => ⟨_, ?_, ?_, hc' i (by omega)⟩⟩
    all_goals
      have hm : zs.getD i 0 ∈ zs := by
        rw [List.getD_eq_getElem?_getD, List.getElem?_eq_getElem (by omega), Option.getD_some]
        exact List.getElem_mem _
      have := bounds_u8 (hwz _ hm)
      omega

set_option maxRecDepth 100000 in
set_option maxHeartbeats 80000000 in
theorem walk_FnProfiles (A : Option Addr) (n c : Nat) (C : Option Addr) (m c' : Nat) (w : World) (hA : ByteArg w A n) (hC : ByteArg w C m) : Calls Try.prog 10 #[.slice A n c, .slice C m c'] w fun e w' => e = .returned (.bool true) ∧ Below w.heap.size w w' := by
  obtain ⟨hn9, hrA⟩ := hA
  obtain ⟨hm9, hrC⟩ := hC
  by_cases hlong : 1048576 < n ∨ 1048576 < m
  · go_enter Try.func10, Try.ntmps10
    go_wp2_with (go_at_call 26; (refine (r8Long_y hlong _ _ _ _ _).mono ?_); rintro e w' ⟨rfl, rfl⟩)
    go_returns
    exact ⟨by simp, Below.refl _ _⟩
  have hn : n ≤ 1048576 := by omega
  have hm : m ≤ 1048576 := by omega
  clear hlong
  have HRC := Lib.hid hrC
  clear hrC
  go_enter Try.func10, Try.ntmps10
  go_wp2_with (first
    | (go_at_call 26; (with_reducible refine (r8Long_n hn hm A C c c' _).mono ?_); rintro e w' ⟨rfl, rfl⟩)
    | (go_at_call 27; (with_reducible refine (R8Profile_c A n c hn _ hrA).mono ?_); rintro e w1 ⟨⟨a, cr, r, y, rfl, q1, q2, q3, q4, q5⟩, hb1⟩))
  have hp : profOk a cr r y = true := by
    unfold profOk
    rw [inB_of (by omega) (by omega), inB_of (by omega) (by omega), inB_of (by omega) (by omega), inB_of (by omega) (by omega)]
    rfl
  have PR2 := ProfAt.new w1 26 a cr r y rfl
  have hb2 : Below w.heap.size w (w1.alloc (.cells #[.int .i64 a, .int .i64 cr, .int .i64 r, .int .i64 y] 26)) := hb1.alloc hb1.size _
  generalize w1.alloc (.cells #[.int .i64 a, .int .i64 cr, .int .i64 r, .int .i64 y] 26) = w2 at *
  generalize w1.heap.size = bx at *
  have HBw2 := Lib.hid hb2
  have PRw2 := Lib.hid PR2
  clear hb1 hb2 PR2
  obtain ⟨pc0, pc1, pc2, pc3, _, pl⟩ := PRw2.out
  go_wp2_with (go_at_call 28; (with_reducible refine (r8Wide_c C m c' 0 20000 hm (by omega) (by omega) (by omega) (by omega) _ (HRC.out.below HBw2.out)).mono ?_); rintro e w' ⟨⟨rw, rw0, rw1, rfl⟩, rfl⟩)
  generalize hway : 1 + 10 * rw = way at *
  have wa0 : 1 ≤ way := by omega
  have wa1 : way ≤ 200000 := by omega
  obtain ⟨T, top, e1, n1, n2, T1, Tw, top1, topc, n1w, F1, F2, F3, F4, F5, hall, hat, ⟨ff, ff1, F6⟩, F7, F8⟩ := ride_vals hp wa0 (by omega) (show cr ≤ 14000 by omega)
  have H1 := Lib.hid F1
  have H2 := Lib.hid F2
  have H3 := Lib.hid F3
  have H4 := Lib.hid F4
  have H5 := Lib.hid F5
  have H6 := Lib.hid F6
  have H7 := Lib.hid F7
  have H8 := Lib.hid F8
  have HALL := Lib.hid hall
  have HAT := Lib.hid hat
  clear F1 F2 F3 F4 F5 F6 F7 F8 hall hat hway
  have ht1 : ¬ T < 1 := by omega
  have ht2 : ¬ top < 1 := by omega
  have ht3 : ¬ cr < top := by omega
  have ht4 : ¬ way ≤ n1 := by omega
  go_wp2_with (first
    | (go_at_call 17; (with_reducible refine (implRT_v H1.out _).mono ?_); rintro e w3 ⟨rfl, hbx⟩; have HBw3 := Lib.hid (HBw2.out.trans (hbx.mono HBw2.out.size)); have PRw3 := Lib.hid (PRw2.out.below hbx); clear hbx pc0 pc1 pc2 pc3; obtain ⟨pc0, pc1, pc2, pc3, _, pl⟩ := PRw3.out)
    | (go_at_call 15; (with_reducible refine (implTS_v H2.out _).mono ?_); rintro e w4 ⟨rfl, hbx⟩; have HBw4 := Lib.hid (HBw3.out.trans (hbx.mono HBw3.out.size)); have PRw4 := Lib.hid (PRw3.out.below hbx); clear hbx pc0 pc1 pc2 pc3; obtain ⟨pc0, pc1, pc2, pc3, _, pl⟩ := PRw4.out)
    | (go_at_call 23; (with_reducible refine (implPA_v H3.out _).mono ?_); rintro e w5 ⟨rfl, hbx⟩; have HBw5 := Lib.hid (HBw4.out.trans (hbx.mono HBw4.out.size)); have PRw5 := Lib.hid (PRw4.out.below hbx); clear hbx pc0 pc1 pc2 pc3; obtain ⟨pc0, pc1, pc2, pc3, _, pl⟩ := PRw5.out)
    | (go_at_call 23; (with_reducible refine (implPA_v H4.out _).mono ?_); rintro e w6 ⟨rfl, hbx⟩; have HBw6 := Lib.hid (HBw5.out.trans (hbx.mono HBw5.out.size)); have PRw6 := Lib.hid (PRw5.out.below hbx); clear hbx pc0 pc1 pc2 pc3; obtain ⟨pc0, pc1, pc2, pc3, _, pl⟩ := PRw6.out)
    | (go_at_call 23; (with_reducible refine (implPA_v H5.out _).mono ?_); rintro e w7 ⟨rfl, hbx⟩; have HBw7 := Lib.hid (HBw6.out.trans (hbx.mono HBw6.out.size)); have PRw7 := Lib.hid (PRw6.out.below hbx); clear hbx pc0 pc1 pc2 pc3; obtain ⟨pc0, pc1, pc2, pc3, _, pl⟩ := PRw7.out)
    | (go_at_call 28; (with_reducible refine (r8Wide_c C m c' 2 60000 hm (by omega) (by omega) (by omega) (by omega) _ (HRC.out.below HBw7.out)).mono ?_); rintro e w' ⟨⟨rs, rs0, rs1, rfl⟩, rfl⟩; obtain ⟨s, hs⟩ : ∃ s, (rs) % (T + 1) = s := ⟨_, rfl⟩; have hes : (rs).tmod (T + 1) = s := (by rw [Int.tmod_eq_emod_of_nonneg (by omega), hs]); have s0 : 0 ≤ s := (by rw [← hs]; exact Int.emod_nonneg _ (by omega)); have s1 : s < T + 1 := (by rw [← hs]; exact Int.emod_lt_of_pos _ (by omega)); have hds : ¬ T + 1 = 0 := (by omega)))
  obtain ⟨x, v, x0, x1, v0, v1, F9, hnext⟩ := HALL.out s s0 (by omega)
  have H9 := Lib.hid F9
  have HNX := Lib.hid hnext
  have hx1 : ¬ x < 0 := by omega
  have hx2 : ¬ way < x := by omega
  have hx3 : ¬ v < 0 := by omega
  have hx4 : ¬ top < v := by omega
  clear F9 hnext hes hs hds
  go_upto_if 183 with (go_at_call 23; (with_reducible refine (implPA_v H9.out _).mono ?_); rintro e w8 ⟨rfl, hbx⟩; have HBw8 := Lib.hid (HBw7.out.trans (hbx.mono HBw7.out.size)); have PRw8 := Lib.hid (PRw7.out.below hbx); clear hbx pc0 pc1 pc2 pc3; obtain ⟨pc0, pc1, pc2, pc3, _, pl⟩ := PRw8.out)
  go_cut [] from 183 to 279 (fun wx => Below w.heap.size w wx ∧ ProfAt bx a cr r y wx)
  case first => as_aux_lemma =>
    by_cases hsT : s < T
    · obtain ⟨nx, F10, F11, nx0, nx9, nx1, nx2, nx3, nx4⟩ := HNX.out hsT
      have H10 := Lib.hid F10
      have H11 := Lib.hid F11
      have HN4 := Lib.hid nx4
      clear F10 F11 nx4
      go_upto_region 21 with (first
        | (go_at_call 23; (with_reducible refine (implPA_v H10.out _).mono ?_); rintro e w9 ⟨rfl, hbx⟩; have HBw9 := Lib.hid (HBw8.out.trans (hbx.mono HBw8.out.size)); have PRw9 := Lib.hid (PRw8.out.below hbx); clear hbx pc0 pc1 pc2 pc3; obtain ⟨pc0, pc1, pc2, pc3, _, pl⟩ := PRw9.out)
        | (go_at_call 13; (with_reducible refine (implNS_v H11.out _).mono ?_); rintro e w10 ⟨rfl, hbx⟩; have HBw10 := Lib.hid (HBw9.out.trans (hbx.mono HBw9.out.size)); have PRw10 := Lib.hid (PRw9.out.below hbx); clear hbx pc0 pc1 pc2 pc3; obtain ⟨pc0, pc1, pc2, pc3, _, pl⟩ := PRw10.out))
      go_cut [250] from 202 to 250 (fun b wx => b = .bool false ∧ w10 = wx)
      case first => as_aux_lemma =>
        go_wp2_with fail
        all_goals
          go_meet
          refine ⟨?_, rfl⟩
          simp only [Value.bool.injEq, Bool.or_eq_false_iff, decide_eq_false_iff_not]
          (repeat' apply And.intro) <;> (repeat' split) <;> first | omega | (exfalso; omega) | trivial
      case rest => as_aux_lemma =>
        obtain ⟨rfl, rfl⟩ := hcut
        go_upto_region 23 with fail
        go_cut [279] from 183 to 279 (fun b wx => b = .bool false ∧ w10 = wx)
        case first => as_aux_lemma =>
          rcases Int.lt_or_le r nx with g1 | g1
          · have h4 := HN4.out g1
            have k1 := mul_bd (show 0 ≤ nx by omega) nx9 (show 0 ≤ nx by omega) nx9
            have k2 := mul_bd (show 0 ≤ r by omega) (show r ≤ 800 by omega) (show 0 ≤ r by omega) (show r ≤ 800 by omega)
            have k3 := mul_bd (show 0 ≤ 2 * a by omega) (show 2 * a ≤ 980 by omega) (show 0 ≤ max 0 (way - x - nx - y) by omega) (show max 0 (way - x - nx - y) ≤ 200000 by omega)
            rcases Int.lt_or_le 0 (way - x - nx - y) with g2 | g2
            · have e : max 0 (way - x - nx - y) = way - x - nx - y := by omega
              rw [e] at h4 k3
              go_wp2_with fail
              go_meet
              case rel => exact ⟨by first | rfl | exact congrArg Value.bool (decide_eq_false (by omega)), rfl⟩
            · have e : max 0 (way - x - nx - y) = 0 := by omega
              rw [e] at h4 k3
              go_wp2_with fail
              go_meet
              case rel => exact ⟨by first | rfl | exact congrArg Value.bool (decide_eq_false (by omega)), rfl⟩
          · go_wp2_with fail
            go_meet
            case rel => exact ⟨by first | rfl | exact congrArg Value.bool (decide_eq_false (by omega)), rfl⟩
        case rest => as_aux_lemma =>
          obtain ⟨rfl, rfl⟩ := hcut
          go_wp2
          go_meet
          case rel => exact ⟨HBw10.out, PRw10.out⟩
    · go_wp2
      go_meet
      case rel => exact ⟨HBw8.out, PRw8.out⟩
  case rest => as_aux_lemma =>
    obtain ⟨hbc, hprc⟩ := hcut
    have HBwc := Lib.hid hbc
    have PRwc := Lib.hid hprc
    clear hbc hprc pc0 pc1 pc2 pc3
    obtain ⟨pc0, pc1, pc2, pc3, _, pl⟩ := PRwc.out
    go_wp2_with (go_at_call 28; (with_reducible refine (r8Wide_c C m c' 4 60000 hm (by omega) (by omega) (by omega) (by omega) _ (HRC.out.below HBwc.out)).mono ?_); rintro e w' ⟨⟨rp, rp0, rp1, rfl⟩, rfl⟩; obtain ⟨pp, hpp⟩ : ∃ pp, (rp * 7) % (way + 1) = pp := ⟨_, rfl⟩; have hepp : (rp * 7).tmod (way + 1) = pp := (by rw [Int.tmod_eq_emod_of_nonneg (by omega), hpp]); have pp0 : 0 ≤ pp := (by rw [← hpp]; exact Int.emod_nonneg _ (by omega)); have pp1 : pp < way + 1 := (by rw [← hpp]; exact Int.emod_lt_of_pos _ (by omega)); have hdpp : ¬ way + 1 = 0 := (by omega))
    obtain ⟨k, x', v', b, u, q, k0, kT, F12, F13, px, F14, hq⟩ := HAT.out pp pp0 (by omega)
    have H12 := Lib.hid F12
    have H13 := Lib.hid F13
    have H14 := Lib.hid F14
    have hk1 : ¬ k < 0 := by omega
    have hk2 : ¬ T < k := by omega
    have hk3 : ¬ x' < pp := by omega
    clear F12 F13 F14 hepp hpp hdpp
    go_upto_region 31 with (first
      | (go_at_call 19; (with_reducible refine (implSA_v H12.out _).mono ?_); rintro e w11 ⟨rfl, hbx⟩; have HBw11 := Lib.hid (HBwc.out.trans (hbx.mono HBwc.out.size)); have PRw11 := Lib.hid (PRwc.out.below hbx); clear hbx pc0 pc1 pc2 pc3; obtain ⟨pc0, pc1, pc2, pc3, _, pl⟩ := PRw11.out)
      | (go_at_call 22; (with_reducible refine (specPA_v H13.out _).mono ?_); rintro e w12 ⟨rfl, hbx⟩; have HBw12 := Lib.hid (HBw11.out.trans (hbx.mono HBw11.out.size)); have PRw12 := Lib.hid (PRw11.out.below hbx); clear hbx pc0 pc1 pc2 pc3; obtain ⟨pc0, pc1, pc2, pc3, _, pl⟩ := PRw12.out)
      | (go_at_call 22; (with_reducible refine (specPA_v H14.out _).mono ?_); rintro e w13 ⟨rfl, hbx⟩; have HBw13 := Lib.hid (HBw12.out.trans (hbx.mono HBw12.out.size)); have PRw13 := Lib.hid (PRw12.out.below hbx); clear hbx pc0 pc1 pc2 pc3; obtain ⟨pc0, pc1, pc2, pc3, _, pl⟩ := PRw13.out))
    go_cut [37, 336] from 280 to 336 (fun _ b wx => b = .bool false ∧ w13 = wx)
    case first => as_aux_lemma =>
      go_wp2_with fail
      all_goals
        go_meet
        refine ⟨?_, rfl⟩
        rcases hq with hq | hq
        · have hq' : (q == 0) = false := by simpa using hq
          first | rfl | (simp [hq']; done) | (simp_all; done)
        · have hq' : ¬ pp ≤ b := by omega
          first | rfl | (simp [hq']; done) | (simp_all; done)
    case rest => as_aux_lemma =>
      obtain ⟨rfl, rfl⟩ := hcut
      have hff : ¬ ff < 1 := by omega
      go_wp2_with (first
        | (go_at_call 21; (with_reducible refine (implSF_v H6.out _).mono ?_); rintro e w14 ⟨rfl, hbx⟩; have HBw14 := Lib.hid (HBw13.out.trans (hbx.mono HBw13.out.size)); have PRw14 := Lib.hid (PRw13.out.below hbx); clear hbx pc0 pc1 pc2 pc3; obtain ⟨pc0, pc1, pc2, pc3, _, pl⟩ := PRw14.out)
        | (go_at_call 21; (with_reducible refine (implSF_v H7.out _).mono ?_); rintro e w15 ⟨rfl, hbx⟩; have HBw15 := Lib.hid (HBw14.out.trans (hbx.mono HBw14.out.size)); have PRw15 := Lib.hid (PRw14.out.below hbx); clear hbx pc0 pc1 pc2 pc3; obtain ⟨pc0, pc1, pc2, pc3, _, pl⟩ := PRw15.out)
        | (go_at_call 21; (with_reducible refine (implSF_v H8.out _).mono ?_); rintro e w16 ⟨rfl, hbx⟩; have HBw16 := Lib.hid (HBw15.out.trans (hbx.mono HBw15.out.size)); have PRw16 := Lib.hid (PRw15.out.below hbx); clear hbx pc0 pc1 pc2 pc3; obtain ⟨pc0, pc1, pc2, pc3, _, pl⟩ := PRw16.out)
        | (go_at_call 28; (with_reducible refine (r8Wide_c C m c' 6 300 hm (by omega) (by omega) (by omega) (by omega) _ (HRC.out.below HBw16.out)).mono ?_); rintro e w' ⟨⟨rl, rl0, rl1, rfl⟩, rfl⟩))
      generalize hwant : 10 + rl = want at *
      rcases fLeast_is (way := way) (secs := want) hp (inB_of (by omega) (by omega)) (inB_of (by omega) (by omega)) with F15 | ⟨d, F15, d0, d1, d2, F16, d3, d4⟩
      · have H15 := Lib.hid F15
        clear F15
        go_wp2_with (go_at_call 25; (with_reducible refine (implLC_v H15.out _).mono ?_); rintro e w17 ⟨rfl, hbx⟩; have HBw17 := Lib.hid (HBw16.out.trans (hbx.mono HBw16.out.size)); have PRw17 := Lib.hid (PRw16.out.below hbx); clear hbx pc0 pc1 pc2 pc3; obtain ⟨pc0, pc1, pc2, pc3, _, pl⟩ := PRw17.out)
        go_returns
        exact ⟨by simp, HBw17.out⟩
      · have H15 := Lib.hid F15
        obtain ⟨t1, G16, dt1⟩ : ∃ t, fRide (profOk a d r y) way (timeI a d r y way) = (t, 0) ∧ t ≤ want := ⟨_, F16, d3⟩
        obtain ⟨t2, q2, G17, dt2⟩ : ∃ t q, fRide (profOk a (d - 100) r y) way (timeI a (d - 100) r y way) = (t, q) ∧ (q = 1 ∨ (q = 0 ∧ want < t)) := by
          rcases d4 with F17 | ⟨F17, d5⟩
          · exact ⟨_, _, F17, .inl rfl⟩
          · exact ⟨_, _, F17, .inr ⟨rfl, d5⟩⟩
        have H16 := Lib.hid G16
        have H17 := Lib.hid G17
        have hd5 : ¬ d < r := by omega
        have hd6 : d.tmod 100 = 0 := by rw [Int.tmod_eq_emod_of_nonneg (by omega)]; exact d2
        have ww1 : IntKind.i64.wrap (d - 100) = d - 100 := IntWalk.i64_in _ (by omega)
        have wv1 : RowKit.wrap64 (d - 100) = d - 100 := by first | exact ww1 | (unfold RowKit.wrap64; exact ww1) | (simp only [RowKit.wrap64]; omega)
        clear F15 F16 d3 d4 G16 G17 d2
        rcases dt2 with rfl | ⟨rfl, d5⟩
        all_goals
          go_wp2_with (go_at_call 25; (with_reducible refine (implLC_v H15.out _).mono ?_); rintro e w17 ⟨rfl, hbx⟩; have HBw17 := Lib.hid (HBw16.out.trans (hbx.mono HBw16.out.size)); have PRw17 := Lib.hid (PRw16.out.below hbx); clear hbx pc0 pc1 pc2 pc3; obtain ⟨pc0, pc1, pc2, pc3, _, pl⟩ := PRw17.out)
          have PQ := Lib.hid (ProfAt.new w17 26 a d r y rfl)
          have hb18 : Below w.heap.size w (w17.alloc (.cells #[.int .i64 a, .int .i64 d, .int .i64 r, .int .i64 y] 26)) := HBw17.out.alloc HBw17.out.size _
          have HBw18 := Lib.hid hb18
          have z17 := HBw17.out.size
          clear hb18 pc0 pc1 pc2 pc3
          obtain ⟨pc0, pc1, pc2, pc3, pf, pl⟩ := PQ.out
          generalize (w17.alloc (.cells #[.int .i64 a, .int .i64 d, .int .i64 r, .int .i64 y] 26)) = w18 at *
          generalize w17.heap.size = bq at *
          go_wp2_with (first
            | (go_at_call 16; (with_reducible refine (specRT_v H16.out _).mono ?_); rintro e w19 ⟨rfl, hbx⟩; have HBw19 := Lib.hid (HBw18.out.trans (hbx.mono HBw18.out.size)); have PQ19 := Lib.hid (PQ.out.below hbx); clear hbx pc0 pc1 pc2 pc3 pf; obtain ⟨pc0, pc1, pc2, pc3, pf, pl⟩ := PQ19.out)
            | (go_at_call 16; (with_reducible refine (specRT_v H17.out _).mono ?_); rintro e w20 ⟨rfl, hbx⟩; have HBw20 := Lib.hid ((HBw19.out.setCell z17 _).trans (hbx.mono (by have := HBw19.out.size; simp; omega)))))
          go_returns
          exact ⟨by simp, HBw20.out⟩
end Go.Proofs.Ytmmabkmcgffnpaa
