/- FnRopes. -/
import Derived.Test.YthemojobalcopaaGreatDoorYV
import Derived.Deep.CutRange
namespace Go.Proofs.YthemojobalcopaaGreatDoor
open Go.ChangeShapes Go.WideShapes Go.ChangeAt Go.RowKit Go.Shelf
set_option linter.unusedVariables false
set_option linter.unusedSimpArgs false

set_option maxRecDepth 100000 in
set_option maxHeartbeats 16000000 in
theorem walk_FnRopes (A : Option Addr) (n c : Nat) (C : Option Addr) (m c' : Nat) (w : World) (hA : ByteArg w A n) (hC : ByteArg w C m) (hE : EnvL w) : Calls Tryz.prog 3 #[.slice A n c, .slice C m c'] w fun e w' => e = .returned (.bool true) ∧ Below w.heap.size w w' := by
  obtain ⟨hn9, hrA⟩ := hA
  obtain ⟨hm9, hrC⟩ := hC
  have HE := Lib.hid hE
  clear hE
  rcases Nat.lt_or_ge 1048576 n with hn | hn
  · go_enter Tryz.func3, Tryz.ntmps3
    go_wp2_with (go_at_call 4; (refine (b10Long_y hn _ _ _).mono ?_); rintro e w' ⟨rfl, rfl⟩)
    go_returns
    exact ⟨by simp, Below.refl _ _⟩
  rcases Nat.lt_or_ge 1048576 m with hm | hm
  · go_enter Tryz.func3, Tryz.ntmps3
    go_wp2_with (first
      | (go_at_call 4; (with_reducible refine (b10Long_n hn A c _).mono ?_); rintro e w' ⟨rfl, rfl⟩)
      | (go_at_call 4; (with_reducible refine (b10Long_y hm C c' _).mono ?_); rintro e w' ⟨rfl, rfl⟩))
    go_returns
    exact ⟨by simp, Below.refl _ _⟩
  have HRA := Lib.hid hrA
  have HRC := Lib.hid hrC
  clear hrA hrC
  go_enter Tryz.func3, Tryz.ntmps3
  go_upto_region 4 with (first
    | (go_at_call 4; (with_reducible refine (b10Long_n hn A c _).mono ?_); rintro e w' ⟨rfl, rfl⟩)
    | (go_at_call 4; (with_reducible refine (b10Long_n hm C c' _).mono ?_); rintro e w' ⟨rfl, rfl⟩)
    | (go_at_call 5; (with_reducible refine (DrawPullFor_c A n c hn _ HRA.out).mono ?_); rintro e w1 ⟨⟨a1, g1, s1, d1, x1, rfl⟩, hb1⟩; have HB1 := Lib.hid hb1; clear hb1))
  have BXp2 := Box4.new w1 25 a1 g1 s1 d1
  have hb : Below w1.heap.size w1 (w1.alloc (.cells #[.int .i64 a1, .int .i64 g1, .int .i64 s1, .int .i64 d1] 25)) := (Below.refl _ _).alloc (Nat.le_refl _) _
  generalize w1.alloc (.cells #[.int .i64 a1, .int .i64 g1, .int .i64 s1, .int .i64 d1] 25) = w2 at *
  have HB2 := Lib.hid (HB1.out.trans (hb.mono HB1.out.size))
  generalize w1.heap.size = bp at *
  have BXp2 := Lib.hid BXp2
  clear hb
  obtain ⟨_, p0, p1, p2, p3, _⟩ := BXp2.out
  obtain ⟨pu, q1, hP⟩ : ∃ p q, fPull a1 g1 s1 d1 x1 = (p, q) := ⟨_, _, rfl⟩
  have HP := Lib.hid hP
  clear hP
  go_upto_if 54 with (go_at_call 6; (with_reducible refine (implPF_v HP.out _).mono ?_); rintro e w3 ⟨rfl, hb⟩; have HB3 := Lib.hid (HB2.out.trans (hb.mono HB2.out.size)); have BXp3 := Lib.hid (BXp2.out.below hb); clear hb p0 p1 p2 p3; obtain ⟨_, p0, p1, p2, p3, _⟩ := BXp3.out)
  go_cut [8] from 55 to 83 (fun _ wx => Below w.heap.size w wx)
  case first =>
    by_cases hq : q1 = 0
    · subst hq
      obtain ⟨p1, p2, y, h1, hy, h2⟩ := pull_law HP.out
      have H1 := Lib.hid h1
      have y1 : ¬ y < x1 := by omega
      have ww1 : IntKind.i64.wrap (pu + 1) = pu + 1 := IntWalk.i64_in _ (by omega)
      have wv1 : RowKit.wrap64 (pu + 1) = pu + 1 := by first | exact ww1 | (unfold RowKit.wrap64; exact ww1) | (simp only [RowKit.wrap64]; omega)
      clear h1 hy
      rcases h2 with ⟨z, h2, hz⟩ | h2
      · have H2 := Lib.hid h2
        have z1 : ¬ x1 ≤ z := by omega
        clear h2
        go_wp2_with (first
          | (go_at_call 7; (with_reducible refine (implRO_v H1.out _).mono ?_); rintro e w4 ⟨rfl, hb⟩; have HB4 := Lib.hid (HB3.out.trans (hb.mono HB3.out.size)); have BXp4 := Lib.hid (BXp3.out.below hb); clear hb p0 p1 p2 p3; obtain ⟨_, p0, p1, p2, p3, _⟩ := BXp4.out)
          | (go_at_call 7; (with_reducible refine (implRO_v H2.out _).mono ?_); rintro e w5 ⟨rfl, hb⟩; have HB5 := Lib.hid (HB4.out.trans (hb.mono HB4.out.size)); have BXp5 := Lib.hid (BXp4.out.below hb); clear hb p0 p1 p2 p3; obtain ⟨_, p0, p1, p2, p3, _⟩ := BXp5.out))
        go_meet
        case rel => exact HB5.out
      · have H2 := Lib.hid h2
        clear h2
        go_wp2_with (first
          | (go_at_call 7; (with_reducible refine (implRO_v H1.out _).mono ?_); rintro e w4 ⟨rfl, hb⟩; have HB4 := Lib.hid (HB3.out.trans (hb.mono HB3.out.size)); have BXp4 := Lib.hid (BXp3.out.below hb); clear hb p0 p1 p2 p3; obtain ⟨_, p0, p1, p2, p3, _⟩ := BXp4.out)
          | (go_at_call 7; (with_reducible refine (implRO_v H2.out _).mono ?_); rintro e w5 ⟨rfl, hb⟩; have HB5 := Lib.hid (HB4.out.trans (hb.mono HB4.out.size)); have BXp5 := Lib.hid (BXp4.out.below hb); clear hb p0 p1 p2 p3; obtain ⟨_, p0, p1, p2, p3, _⟩ := BXp5.out))
        go_meet
        case rel => exact HB5.out
    · go_wp2
      go_meet
      case rel => exact HB3.out
  case rest =>
    have HBc := Lib.hid hcut
    clear hcut p0 p1 p2 p3
    go_upto_if 98 with (first
      | (go_at_call 8; (with_reducible refine (DrawBendsLeft_c C m c' hm _ (HRC.out.below HBc.out)).mono ?_); rintro e w4 ⟨⟨A2, n2, c2, z2, dn, ms, rfl, hz2, hn2, hR2⟩, hb⟩; have HB4 := Lib.hid (HBc.out.trans (hb.mono HBc.out.size)); have HR4 := Lib.hid hR2; clear hb hR2; obtain ⟨nl, ql, hF⟩ : ∃ p q, fLeft z2 dn ms = (p, q) := ⟨_, _, rfl⟩; have HF := Lib.hid hF; clear hF)
      | (go_at_call 9; (with_reducible refine (implBL_v HF.out hz2 (by omega) _ HR4.out).mono ?_); rintro e w' ⟨rfl, rfl⟩))
    go_cut [17] from 99 to 137 (fun _ wx => Below w.heap.size w wx)
    case first =>
      by_cases hq : ql = 0
      · subst hq
        obtain ⟨⟨e0, e1⟩, ⟨e2, e3⟩, ⟨e4, e5⟩, ba, h1, ⟨e6, e7⟩, e8, h2⟩ := left_law HF.out
        have H1 := Lib.hid h1
        have f1 : ¬ nl < 0 := by omega
        have f2 : ¬ 1000000 < nl := by omega
        have f3 : ¬ ms < dn + ba := by omega
        have ww2 : IntKind.i64.wrap (nl + 1) = nl + 1 := IntWalk.i64_in _ (by omega)
        have wv2 : RowKit.wrap64 (nl + 1) = nl + 1 := by first | exact ww2 | (unfold RowKit.wrap64; exact ww2) | (simp only [RowKit.wrap64]; omega)
        have ww3 : IntKind.i64.wrap (dn + ba) = dn + ba := IntWalk.i64_in _ (by omega)
        have wv3 : RowKit.wrap64 (dn + ba) = dn + ba := by first | exact ww3 | (unfold RowKit.wrap64; exact ww3) | (simp only [RowKit.wrap64]; omega)
        clear h1
        rcases h2 with ⟨bb, h2, ⟨i0, i1⟩, i2⟩ | h2
        · have H2 := Lib.hid h2
          have f4 : ¬ dn + bb ≤ ms := by omega
          have ww4 : IntKind.i64.wrap (dn + bb) = dn + bb := IntWalk.i64_in _ (by omega)
          have wv4 : RowKit.wrap64 (dn + bb) = dn + bb := by first | exact ww4 | (unfold RowKit.wrap64; exact ww4) | (simp only [RowKit.wrap64]; omega)
          clear h2
          go_wp2_with (first
            | (go_at_call 10; (with_reducible refine (implBA_v H1.out hz2 (by omega) _ HR4.out).mono ?_); rintro e w' ⟨rfl, rfl⟩)
            | (go_at_call 10; (with_reducible refine (implBA_v H2.out hz2 (by omega) _ HR4.out).mono ?_); rintro e w' ⟨rfl, rfl⟩))
          go_meet
          case rel => exact HB4.out
        · have H2 := Lib.hid h2
          clear h2
          go_wp2_with (first
            | (go_at_call 10; (with_reducible refine (implBA_v H1.out hz2 (by omega) _ HR4.out).mono ?_); rintro e w' ⟨rfl, rfl⟩)
            | (go_at_call 10; (with_reducible refine (implBA_v H2.out hz2 (by omega) _ HR4.out).mono ?_); rintro e w' ⟨rfl, rfl⟩))
          go_meet
          case rel => exact HB4.out
      · go_wp2
        go_meet
        case rel => exact HB4.out
    case rest =>
      have HBd := Lib.hid hcut
      clear hcut
      go_upto_region 20 with (go_at_call 11; (with_reducible refine (DrawCutRope_c A n c hn _ (HRA.out.below HBd.out)).mono ?_); rintro e w5 ⟨⟨a2, g2, s2, d2, x2, rfl⟩, hb⟩; have HB5 := Lib.hid (HBd.out.trans (hb.mono HBd.out.size)); clear hb)
      have BXp6 := Box4.new w5 25 a2 g2 s2 d2
      have hb : Below w5.heap.size w5 (w5.alloc (.cells #[.int .i64 a2, .int .i64 g2, .int .i64 s2, .int .i64 d2] 25)) := (Below.refl _ _).alloc (Nat.le_refl _) _
      generalize w5.alloc (.cells #[.int .i64 a2, .int .i64 g2, .int .i64 s2, .int .i64 d2] 25) = w6 at *
      have HB6 := Lib.hid (HB5.out.trans (hb.mono HB5.out.size))
      generalize w5.heap.size = bp at *
      have BXp6 := Lib.hid BXp6
      clear hb
      obtain ⟨_, p0, p1, p2, p3, _⟩ := BXp6.out
      obtain ⟨a3, g3, s3, d3, q3, hF⟩ : ∃ a b c d q, fCut a2 g2 s2 d2 x2 = ((a, b, c, d), q) := ⟨_, _, _, _, _, rfl⟩
      have HF3 := Lib.hid hF
      clear hF
      go_upto_region 21 with (go_at_call 12; (with_reducible refine (implCR_v HF3.out _).mono ?_); rintro e w7 ⟨rfl, hb⟩; have HB7 := Lib.hid (HB6.out.trans (hb.mono HB6.out.size)); have BXp7 := Lib.hid (BXp6.out.below hb); clear hb p0 p1 p2 p3; obtain ⟨_, p0, p1, p2, p3, _⟩ := BXp7.out)
      have BXk8 := Box4.new w7 25 a3 g3 s3 d3
      have hb : Below w7.heap.size w7 (w7.alloc (.cells #[.int .i64 a3, .int .i64 g3, .int .i64 s3, .int .i64 d3] 25)) := (Below.refl _ _).alloc (Nat.le_refl _) _
      generalize w7.alloc (.cells #[.int .i64 a3, .int .i64 g3, .int .i64 s3, .int .i64 d3] 25) = w8 at *
      have HB8 := Lib.hid (HB7.out.trans (hb.mono HB7.out.size))
      have BXp8 := Lib.hid (BXp7.out.below hb)
      generalize w7.heap.size = bk at *
      have BXk8 := Lib.hid BXk8
      clear hb p0 p1 p2 p3
      obtain ⟨_, p0, p1, p2, p3, _⟩ := BXp8.out
      obtain ⟨_, k0, k1, k2, k3, _⟩ := BXk8.out
      go_upto_if 150 with fail
      go_cut [25] from 151 to 185 (fun _ wx => Below w.heap.size w wx)
      case first =>
        by_cases hq : q3 = 0
        · subst hq
          obtain ⟨ea, ⟨e0, e1⟩, ⟨e2, e3⟩, hok3, mx, my, h1, h2, hmm⟩ := cut_law HF3.out
          have H1 := Lib.hid h1
          have H2 := Lib.hid h2
          have f1 : ¬ mx < my := by omega
          have f2 : (a3 != a2 - x2) = false := by simp; omega
          have ww5 : IntKind.i64.wrap (a2 - x2) = a2 - x2 := IntWalk.i64_in _ (by omega)
          have wv5 : RowKit.wrap64 (a2 - x2) = a2 - x2 := by first | exact ww5 | (unfold RowKit.wrap64; exact ww5) | (simp only [RowKit.wrap64]; omega)
          clear h1 h2 ea hmm
          go_upto_region 24 with (first
            | (go_at_call 13; (with_reducible refine (implRM_v H1.out _).mono ?_); rintro e w9 ⟨rfl, hb⟩; have HB9 := Lib.hid (HB8.out.trans (hb.mono HB8.out.size)); have BXp9 := Lib.hid (BXp8.out.below hb); have BXk9 := Lib.hid (BXk8.out.below hb); clear hb p0 p1 p2 p3 k0 k1 k2 k3; obtain ⟨_, p0, p1, p2, p3, _⟩ := BXp9.out; obtain ⟨_, k0, k1, k2, k3, _⟩ := BXk9.out)
            | (go_at_call 13; (with_reducible refine (implRM_v H2.out _).mono ?_); rintro e w10 ⟨rfl, hb⟩; have HB10 := Lib.hid (HB9.out.trans (hb.mono HB9.out.size)); have BXp10 := Lib.hid (BXp9.out.below hb); have BXk10 := Lib.hid (BXk9.out.below hb); clear hb p0 p1 p2 p3 k0 k1 k2 k3; obtain ⟨_, p0, p1, p2, p3, _⟩ := BXp10.out; obtain ⟨_, k0, k1, k2, k3, _⟩ := BXk10.out))
          go_wp2_with (go_at_call 14; (with_reducible refine (specVR_v hok3 _).mono ?_); rintro e w11 ⟨rfl, hb⟩; have HB11 := Lib.hid (HB10.out.trans (hb.mono HB10.out.size)); have BXp11 := Lib.hid (BXp10.out.below hb); have BXk11 := Lib.hid (BXk10.out.below hb); clear hb p0 p1 p2 p3 k0 k1 k2 k3; obtain ⟨_, p0, p1, p2, p3, _⟩ := BXp11.out; obtain ⟨_, k0, k1, k2, k3, _⟩ := BXk11.out)
          go_meet
          case rel => exact HB11.out
        · go_wp2
          go_meet
          case rel => exact HB8.out
      case rest =>
        have HBe := Lib.hid hcut
        clear hcut p0 p1 p2 p3 k0 k1 k2 k3
        go_upto_region 27 with (go_at_call 15; (with_reducible refine (DrawSpliceLoss_c C m c' hm _ (HRC.out.below HBe.out)).mono ?_); rintro e w12 ⟨⟨a4, g4, s4, d4, x4, rfl⟩, hb⟩; have HB12 := Lib.hid (HBe.out.trans (hb.mono HBe.out.size)); clear hb)
        have BXp13 := Box4.new w12 25 a4 g4 s4 d4
        have hb : Below w12.heap.size w12 (w12.alloc (.cells #[.int .i64 a4, .int .i64 g4, .int .i64 s4, .int .i64 d4] 25)) := (Below.refl _ _).alloc (Nat.le_refl _) _
        generalize w12.alloc (.cells #[.int .i64 a4, .int .i64 g4, .int .i64 s4, .int .i64 d4] 25) = w13 at *
        have HB13 := Lib.hid (HB12.out.trans (hb.mono HB12.out.size))
        generalize w12.heap.size = bp at *
        have BXp13 := Lib.hid BXp13
        clear hb
        obtain ⟨_, p0, p1, p2, p3, _⟩ := BXp13.out
        obtain ⟨a5, g5, s5, d5, q5, hF⟩ : ∃ a b c d q, fSplice a4 g4 s4 d4 x4 = ((a, b, c, d), q) := ⟨_, _, _, _, _, rfl⟩
        have HF5 := Lib.hid hF
        clear hF
        go_upto_region 28 with (go_at_call 16; (with_reducible refine (implSL_v HF5.out _).mono ?_); rintro e w14 ⟨rfl, hb⟩; have HB14 := Lib.hid (HB13.out.trans (hb.mono HB13.out.size)); have BXp14 := Lib.hid (BXp13.out.below hb); clear hb p0 p1 p2 p3; obtain ⟨_, p0, p1, p2, p3, _⟩ := BXp14.out)
        have BXk15 := Box4.new w14 25 a5 g5 s5 d5
        have hb : Below w14.heap.size w14 (w14.alloc (.cells #[.int .i64 a5, .int .i64 g5, .int .i64 s5, .int .i64 d5] 25)) := (Below.refl _ _).alloc (Nat.le_refl _) _
        generalize w14.alloc (.cells #[.int .i64 a5, .int .i64 g5, .int .i64 s5, .int .i64 d5] 25) = w15 at *
        have HB15 := Lib.hid (HB14.out.trans (hb.mono HB14.out.size))
        have BXp15 := Lib.hid (BXp14.out.below hb)
        generalize w14.heap.size = bk at *
        have BXk15 := Lib.hid BXk15
        clear hb p0 p1 p2 p3
        obtain ⟨_, p0, p1, p2, p3, _⟩ := BXp15.out
        obtain ⟨_, k0, k1, k2, k3, _⟩ := BXk15.out
        by_cases hq : q5 = 0
        · subst hq
          obtain ⟨ea, ⟨e0, e1⟩, ⟨e2, e3⟩, ⟨e4, e5⟩, hok5, ⟨e6, e7⟩, e8, e9⟩ := splice_law HF5.out
          subst ea
          obtain ⟨tl, htl⟩ : ∃ l, txtRopeText a5 g5 s5 d5 = l := ⟨_, rfl⟩
          have htlen := txtRope_len hok5
          have hrd := rd_txtRope hok5
          rw [htl] at htlen hrd
          have HT := Lib.hid htl
          have HL := Lib.hid htlen
          have HRD := Lib.hid (show rdRope (ByteArray.mk tl.toArray).data.toList = ([a5, g5, s5, d5], true) from hrd)
          have f1 : d5 ≤ d4 := e5
          generalize hmul : x4 * d4 = xd at *
          have ww6 : IntKind.i64.wrap (d4 - d5) = d4 - d5 := IntWalk.i64_in _ (by omega)
          have wv6 : RowKit.wrap64 (d4 - d5) = d4 - d5 := by first | exact ww6 | (unfold RowKit.wrap64; exact ww6) | (simp only [RowKit.wrap64]; omega)
          have ww7 : IntKind.i64.wrap (100 * (d4 - d5)) = 100 * (d4 - d5) := IntWalk.i64_in _ (by omega)
          have wv7 : RowKit.wrap64 (100 * (d4 - d5)) = 100 * (d4 - d5) := by first | exact ww7 | (unfold RowKit.wrap64; exact ww7) | (simp only [RowKit.wrap64]; omega)
          have ww8 : IntKind.i64.wrap (xd) = xd := IntWalk.i64_in _ (by omega)
          have wv8 : RowKit.wrap64 (xd) = xd := by first | exact ww8 | (unfold RowKit.wrap64; exact ww8) | (simp only [RowKit.wrap64]; omega)
          have ww9 : IntKind.i64.wrap (100 * (d4 - d5) - xd) = 100 * (d4 - d5) - xd := IntWalk.i64_in _ (by omega)
          have wv9 : RowKit.wrap64 (100 * (d4 - d5) - xd) = 100 * (d4 - d5) - xd := by first | exact ww9 | (unfold RowKit.wrap64; exact ww9) | (simp only [RowKit.wrap64]; omega)
          clear htl htlen hrd
          go_upto_region 31 with (first
            | (go_at_call 18; (with_reducible refine (implRT_v HT.out _ (HE.out.below HB15.out).tab).mono ?_); rintro e w16 ⟨rfl, hb⟩; have HB16 := Lib.hid (HB15.out.trans (hb.mono HB15.out.size)); have BXp16 := Lib.hid (BXp15.out.below hb); have BXk16 := Lib.hid (BXk15.out.below hb); clear hb p0 p1 p2 p3 k0 k1 k2 k3; obtain ⟨_, p0, p1, p2, p3, _⟩ := BXp16.out; obtain ⟨_, k0, k1, k2, k3, _⟩ := BXk16.out)
            | (go_at_call 17; (with_reducible refine (implReadRope_v ⟨tl.toArray⟩ HL.out a5 g5 s5 d5 true HRD.out _ (HE.out.below HB16.out)).mono ?_); rintro e w17 ⟨rfl, hb⟩; have HB17 := Lib.hid (HB16.out.trans (hb.mono HB16.out.size)); have BXp17 := Lib.hid (BXp16.out.below hb); have BXk17 := Lib.hid (BXk16.out.below hb); clear hb p0 p1 p2 p3 k0 k1 k2 k3; obtain ⟨_, p0, p1, p2, p3, _⟩ := BXp17.out; obtain ⟨_, k0, k1, k2, k3, _⟩ := BXk17.out))
          have BXr18 := Box4.new w17 25 a5 g5 s5 d5
          have hb : Below w17.heap.size w17 (w17.alloc (.cells #[.int .i64 a5, .int .i64 g5, .int .i64 s5, .int .i64 d5] 25)) := (Below.refl _ _).alloc (Nat.le_refl _) _
          generalize w17.alloc (.cells #[.int .i64 a5, .int .i64 g5, .int .i64 s5, .int .i64 d5] 25) = w18 at *
          have HB18 := Lib.hid (HB17.out.trans (hb.mono HB17.out.size))
          have BXp18 := Lib.hid (BXp17.out.below hb)
          have BXk18 := Lib.hid (BXk17.out.below hb)
          generalize w17.heap.size = br at *
          have BXr18 := Lib.hid BXr18
          clear hb p0 p1 p2 p3 k0 k1 k2 k3
          obtain ⟨_, p0, p1, p2, p3, _⟩ := BXp18.out
          obtain ⟨_, k0, k1, k2, k3, _⟩ := BXk18.out
          obtain ⟨_, r0, r1, r2, r3, _⟩ := BXr18.out
          go_wp2_with (go_at_call 19; (refine (b10Abs_c (100 * (d4 - d5) - xd) (by omega) (by omega) _).mono ?_); rintro e w' ⟨rfl, rfl⟩; have f9 : 2 * absI (100 * (d4 - d5) - xd) ≤ 100 := (by unfold absI; split <;> omega); have f8 : 0 ≤ absI (100 * (d4 - d5) - xd) := (by unfold absI; split <;> omega); generalize absI (100 * (d4 - d5) - xd) = ab at *)
          go_returns
          exact ⟨by simp, by first | exact HB18.out | exact bdrewN HB18.out _⟩
        · obtain ⟨rfl, rfl, rfl, rfl⟩ := splice_no HF5.out hq
          go_wp2
          go_returns
          exact ⟨by simp, by first | exact HB15.out | exact bdrewN HB15.out _⟩
end Go.Proofs.YthemojobalcopaaGreatDoor
