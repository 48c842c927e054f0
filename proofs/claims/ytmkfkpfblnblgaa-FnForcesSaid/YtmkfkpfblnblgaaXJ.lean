/- FnForces. -/
import Derived.Test.YtmkfkpfblnblgaaXI
import Derived.Deep.Cut
namespace Go.Proofs.Ytmkfkpfblnblgaa
open Go.ChangeShapes Go.WideShapes Go.ChangeAt Go.RowKit
set_option linter.unusedVariables false
set_option linter.unusedSimpArgs false

theorem chg_bd (z : List Int) (n : Nat) (k o r : Int) : ∀ i : Nat, -1 ≤ chgTo z n k o r 40000 i ∧ chgTo z n k o r 40000 i ≤ 40000 * (i : Int)
  | 0 => by simp [chgTo]
  | i + 1 => by
    have := chg_bd z n k o r i
    rw [chgTo]
    split <;> omega
/-- What a law's argument that is a slice of bytes gives. -/
def ByteArg (W : World) (A : Option Addr) (n : Nat) : Prop := n ≤ 9223372036854775807 ∧ RowB W A n
theorem byteRow_of_trod {H : Type} {enc : TypeId × Value → H} {P : Program} {W : World} {t e : TypeId} {A : Option Addr} {n c : Nat} {d : DataW H} {p : List MemPlace} (ht : P.underlying t = some (.slice e)) (he : P.underlying e = some (.int .u8)) (hC : P.cellsOf e = 1)
    (h : DataW.Trod enc P W 0 (fun _ => true) true t (.slice A n c) d p) : ByteArg W A n := by
  obtain ⟨fuel, hf⟩ := h
  rcases open_ints ht he hC hf with ⟨hcs, _⟩ | ⟨x, l, cc, zs, hcs, _, hl, hm, hz, _, hcell, hwz⟩
  · simp [Value.cells] at hcs
    obtain ⟨rfl, rfl, rfl⟩ := hcs
    exact ⟨by omega, fun h => by omega⟩
  · simp [Value.cells] at hcs
    obtain ⟨rfl, rfl, rfl⟩ := hcs
    unfold maxLen at hm
    have hlen : zs.length = c := by simpa using hz
    refine ⟨by omega, fun hn => ?_⟩
    obtain ⟨b, off, spot⟩ := x
    have hc0 := hcell 0 (by omega)
    have hspot : spot = none := by simpa [Addr.add] using World.cell?_spot hc0
    subst hspot
    have hc' : ∀ i, i < zs.length → W.cell? ⟨b, off + i, none⟩ = some (.int .u8 (zs.getD i 0)) := fun i hi => by
      have := hcell i hi
      unfold Addr.add at this
      by_cases h0 : i = 0
      · subst h0; simpa using this
      · simpa [h0] using this
    refine ⟨b, off, rfl, lt_of_cell (hc' 0 (by omega)), fun i hi => ⟨_, ?_, ?_, hc' i (by omega)⟩⟩
    all_goals
      have hm : zs.getD i 0 ∈ zs := by
        rw [List.getD_eq_getElem?_getD, List.getElem?_eq_getElem (by omega), Option.getD_some]
        exact List.getElem_mem _
      have := bounds_u8 (hwz _ hm)
      omega

set_option maxRecDepth 100000 in
set_option maxHeartbeats 8000000 in
theorem walk_FnForces (A : Option Addr) (n c : Nat) (C : Option Addr) (m c' : Nat) (w : World) (hA : ByteArg w A n) (hC : ByteArg w C m) : Calls Try.prog 12 #[.slice A n c, .slice C m c'] w fun e w' => e = .returned (.bool true) ∧ Below w.heap.size w w' := by
  obtain ⟨hn9, hrA⟩ := hA
  obtain ⟨hm9, hrC⟩ := hC
  by_cases hlong : 1048576 < n ∨ 1048576 < m
  · go_enter Try.func12, Try.ntmps12
    go_wp2_with (go_at_call 34; (refine (r8Long_y hlong _ _ _ _ _).mono ?_); rintro e w' ⟨rfl, rfl⟩)
    go_returns
    exact ⟨by simp, Below.refl _ _⟩
  have hn : n ≤ 1048576 := by omega
  have hm : m ≤ 1048576 := by omega
  clear hlong
  have HRC := Lib.hid hrC
  clear hrC
  go_enter Try.func12, Try.ntmps12
  go_wp2_with (first
    | (go_at_call 34; (with_reducible refine (r8Long_n hn hm A C c c' _).mono ?_); rintro e w' ⟨rfl, rfl⟩)
    | (go_at_call 35; (with_reducible refine (R8Track_c A n c hn _ hrA).mono ?_); rintro e w1 ⟨⟨A1, n1, c1, z, f, u, rfl, hz1, hn15, hd1, ht1, hr1⟩, hb1⟩))
  have TB2 := TrackBox.new w1 30 A1 n1 c1 f u
  have hb2 : Below w.heap.size w (w1.alloc (.cells #[.slice A1 n1 c1, .int .i64 f, .int .i64 u] 30)) := hb1.alloc hb1.size _
  have hr2 := hr1.alloc (.cells #[.slice A1 n1 c1, .int .i64 f, .int .i64 u] 30)
  have hn1 : n1 ≤ 1048576 := by omega
  obtain ⟨N, hN⟩ : ∃ N, lenTo z n1 = N := ⟨_, rfl⟩
  have hlen := hd1.len n1 (Nat.le_refl _)
  rw [hN] at hlen
  have N0 : 20000 ≤ N := by omega
  have N1 : N ≤ 1095000 := by omega
  have hs1 := (trackB_true ht1).2.1
  have HT := Lib.hid ht1
  have HN := Lib.hid hN
  have HD := Lib.hid hd1
  have HS := Lib.hid hs1
  generalize w1.alloc (.cells #[.slice A1 n1 c1, .int .i64 f, .int .i64 u] 30) = w2 at *
  generalize w1.heap.size = bx at *
  have HBw2 := Lib.hid hb2
  have TBw2 := Lib.hid TB2
  have HRWw2 := Lib.hid hr2
  clear hb1 hb2 TB2 hr1 hr2 ht1 hN hd1 hs1 hlen
  obtain ⟨pc0, pc1, pc2, pl⟩ := TBw2.out
  go_wp2_with (first
    | (go_at_call 36; (with_reducible refine (trackLength_c A1 n1 c1 z f u hz1 (by omega) HT.out _ HRWw2.out).mono ?_); rw [HN.out]; rintro e w3 ⟨rfl, hbx⟩; have HBw3 := Lib.hid (HBw2.out.trans (hbx.mono HBw2.out.size)); have TBw3 := Lib.hid (TBw2.out.below hbx); have HRWw3 := Lib.hid (HRWw2.out.below hbx); clear hbx pc0 pc1 pc2; obtain ⟨pc0, pc1, pc2, pl⟩ := TBw3.out)
    | (go_at_call 37; (with_reducible refine (r8Wide_c C m c' 0 60000 hm (by omega) (by omega) (by omega) (by omega) _ (HRC.out.below HBw3.out)).mono ?_); rintro e w' ⟨⟨ra, ra0, ra1, rfl⟩, rfl⟩; obtain ⟨xp, hxp⟩ : ∃ xp, (ra * 53) % (N + 1) = xp := ⟨_, rfl⟩; have hexp : (ra * 53).tmod (N + 1) = xp := (by rw [Int.tmod_eq_emod_of_nonneg (by omega), hxp]); have xp0 : 0 ≤ xp := (by rw [← hxp]; exact Int.emod_nonneg _ (by omega)); have xp1 : xp < N + 1 := (by rw [← hxp]; exact Int.emod_lt_of_pos _ (by omega)); have hdxp : ¬ N + 1 = 0 := (by omega))
    | (go_at_call 37; (with_reducible refine (r8Wide_c C m c' 2 9000 hm (by omega) (by omega) (by omega) (by omega) _ (HRC.out.below HBw3.out)).mono ?_); rintro e w' ⟨⟨rb, rb0, rb1, rfl⟩, rfl⟩)
    | (go_at_call 37; (with_reducible refine (r8Wide_c C m c' 4 9000 hm (by omega) (by omega) (by omega) (by omega) _ (HRC.out.below HBw3.out)).mono ?_); rintro e w' ⟨⟨rc, rc0, rc1, rfl⟩, rfl⟩)
    | (go_at_call 37; (with_reducible refine (r8Wide_c C m c' 6 4000 hm (by omega) (by omega) (by omega) (by omega) _ (HRC.out.below HBw3.out)).mono ?_); rintro e w' ⟨⟨rd, rd0, rd1, rfl⟩, rfl⟩))
  clear hexp hxp hdxp
  generalize hkil : 3000 + rb = kil at *
  generalize hoth : 3000 + rc = oth at *
  generalize hrop : 1000 + rd = rop at *
  have kil0 : 3000 ≤ kil := by omega
  have kil1 : kil ≤ 12000 := by omega
  have oth0 : 3000 ≤ oth := by omega
  have oth1 : oth ≤ 12000 := by omega
  have rop0 : 1000 ≤ rop := by omega
  have rop1 : rop ≤ 5000 := by omega
  clear hkil hoth hrop
  have xpN : xp ≤ N := by omega
  have hNle : lenTo z n1 ≤ 3000000 := by rw [HN.out]; omega
  have hxl : xp ≤ lenTo z n1 := by rw [HN.out]; exact xpN
  have g1 := carI_one (z := z) (n := n1) (x := xp) (by omega) kil0 (fun k hk => (HD.out k hk).2.1)
  have g2 := carI_bd HS.out (by omega) (x := xp) (kilos := kil) (by omega) (by omega)
  have g3 := ropI_bd HS.out (x := xp) (rope := rop) (by omega) (by omega) xp0 hxl hNle
  have g4 := netI_bd HS.out (by omega) (x := xp) (kilos := kil) (other := oth) (rope := rop) (by omega) (by omega) (by omega) (by omega) (by omega) (by omega) xp0 hxl hNle
  have g5 := netI_back z n1 xp kil oth rop
  have g6 := ropI_end z n1 rop
  rw [HN.out] at g5 g6
  have g7 : tenI z n1 xp kil rop = carI z n1 xp kil + ropI z n1 xp rop := rfl
  obtain ⟨car, hcar⟩ : ∃ v, carI z n1 xp kil = v := ⟨_, rfl⟩
  obtain ⟨abv, habv⟩ : ∃ v, ropI z n1 xp rop = v := ⟨_, rfl⟩
  obtain ⟨net, hnet⟩ : ∃ v, netI z n1 xp kil oth rop = v := ⟨_, rfl⟩
  rw [hcar] at g1 g2 g7
  rw [habv] at g3 g7
  rw [hnet] at g4 g5
  have HC := Lib.hid hcar
  have HA := Lib.hid habv
  have HE := Lib.hid hnet
  have H5 := Lib.hid g5
  have H6 := Lib.hid g6
  have H7 := Lib.hid g7
  have hc1 : ¬ car < 1 := by omega
  have hc2 : ¬ abv < 0 := by omega
  clear hcar habv hnet g5 g6 g7 hxl hNle
  go_upto_region 17 with (first
    | (go_at_call 16; (with_reducible refine (car_v HT.out HN.out xp0 xpN (k0 := by omega) (k1 := by omega) HC.out hz1 hn1 _ HRWw3.out).mono ?_); rintro e w4 ⟨rfl, hbx⟩; have HBw4 := Lib.hid (HBw3.out.trans (hbx.mono HBw3.out.size)); have TBw4 := Lib.hid (TBw3.out.below hbx); have HRWw4 := Lib.hid (HRWw3.out.below hbx); clear hbx pc0 pc1 pc2; obtain ⟨pc0, pc1, pc2, pl⟩ := TBw4.out)
    | (go_at_call 19; (with_reducible refine (rop_v HT.out HN.out xp0 xpN (r0 := by omega) (r1 := by omega) HA.out hz1 hn1 _ HRWw4.out).mono ?_); rintro e w5 ⟨rfl, hbx⟩; have HBw5 := Lib.hid (HBw4.out.trans (hbx.mono HBw4.out.size)); have TBw5 := Lib.hid (TBw4.out.below hbx); have HRWw5 := Lib.hid (HRWw4.out.below hbx); clear hbx pc0 pc1 pc2; obtain ⟨pc0, pc1, pc2, pl⟩ := TBw5.out)
    | (go_at_call 21; (with_reducible refine (implTen_v HT.out HN.out xp0 xpN (k0 := by omega) (k1 := by omega) (r0 := by omega) (r1 := by omega) H7.out hz1 hn1 _ HRWw5.out).mono ?_); rintro e w6 ⟨rfl, hbx⟩; have HBw6 := Lib.hid (HBw5.out.trans (hbx.mono HBw5.out.size)); have TBw6 := Lib.hid (TBw5.out.below hbx); have HRWw6 := Lib.hid (HRWw5.out.below hbx); clear hbx pc0 pc1 pc2; obtain ⟨pc0, pc1, pc2, pl⟩ := TBw6.out)
    | (go_at_call 23; (with_reducible refine (implNet_v HT.out HN.out xp0 xpN (k0 := by omega) (k1 := by omega) (o0 := by omega) (o1 := by omega) (r0 := by omega) (r1 := by omega) HE.out hz1 hn1 _ HRWw6.out).mono ?_); rintro e w7 ⟨rfl, hbx⟩; have HBw7 := Lib.hid (HBw6.out.trans (hbx.mono HBw6.out.size)); have TBw7 := Lib.hid (TBw6.out.below hbx); have HRWw7 := Lib.hid (HRWw6.out.below hbx); clear hbx pc0 pc1 pc2; obtain ⟨pc0, pc1, pc2, pl⟩ := TBw7.out)
    | (go_at_call 23; (with_reducible refine (implNet_v HT.out HN.out (show 0 ≤ N - xp by omega) (by omega) (k0 := by omega) (k1 := by omega) (o0 := by omega) (o1 := by omega) (r0 := by omega) (r1 := by omega) H5.out hz1 hn1 _ HRWw7.out).mono ?_); rintro e w8 ⟨rfl, hbx⟩; have HBw8 := Lib.hid (HBw7.out.trans (hbx.mono HBw7.out.size)); have TBw8 := Lib.hid (TBw7.out.below hbx); have HRWw8 := Lib.hid (HRWw7.out.below hbx); clear hbx pc0 pc1 pc2; obtain ⟨pc0, pc1, pc2, pl⟩ := TBw8.out)
    | (go_at_call 19; (with_reducible refine (rop_v HT.out HN.out (show 0 ≤ N by omega) (by omega) (r0 := by omega) (r1 := by omega) H6.out hz1 hn1 _ HRWw8.out).mono ?_); rintro e w9 ⟨rfl, hbx⟩; have HBw9 := Lib.hid (HBw8.out.trans (hbx.mono HBw8.out.size)); have TBw9 := Lib.hid (TBw8.out.below hbx); have HRWw9 := Lib.hid (HRWw8.out.below hbx); clear hbx pc0 pc1 pc2; obtain ⟨pc0, pc1, pc2, pl⟩ := TBw9.out))
  clear g1 g2 g3 g4 hc1 hc2 HC HA HE H5 H6 H7
  obtain ⟨bk, bq, hbal, hbcase⟩ : ∃ bk bq, fBal z n1 xp oth rop = (bk, bq) ∧ ((bk = 0 ∧ bq = 3) ∨ (bq = 0 ∧ 0 ≤ bk ∧ bk ≤ 100000 ∧ 0 ≤ netI z n1 xp bk oth rop ∧ (bk = 0 ∨ netI z n1 xp (bk - 1) oth rop < 0))) := by
    rcases fBal_is z n1 xp oth rop with h | ⟨k, h, h1, h2, h3, h4⟩
    · exact ⟨0, 3, h, .inl ⟨rfl, rfl⟩⟩
    · exact ⟨k, 0, h, .inr ⟨rfl, h1, h2, h3, h4⟩⟩
  have HBAL := Lib.hid hbal
  have HBC := Lib.hid hbcase
  clear hbal hbcase
  go_upto_if 182 with (go_at_call 31; (with_reducible refine (bal_v HT.out HN.out xp0 xpN (o0 := by omega) (o1 := by omega) (r0 := by omega) (r1 := by omega) HBAL.out hz1 hn1 _ HRWw9.out).mono ?_); rintro e w10 ⟨rfl, hbx⟩; have HBw10 := Lib.hid (HBw9.out.trans (hbx.mono HBw9.out.size)); have TBw10 := Lib.hid (TBw9.out.below hbx); have HRWw10 := Lib.hid (HRWw9.out.below hbx); clear hbx pc0 pc1 pc2; obtain ⟨pc0, pc1, pc2, pl⟩ := TBw10.out)
  go_cut [] from 52 (fun wx => Below w.heap.size w wx ∧ TrackBox bx A1 n1 c1 f u wx ∧ RowI wx A1 z)
  case first => as_aux_lemma =>
    rcases HBC.out with ⟨rfl, rfl⟩ | ⟨rfl, b0, b1, b2, b3⟩
    · go_wp2
      go_meet
      case rel => exact ⟨HBw10.out, TBw10.out, HRWw10.out⟩
    · obtain ⟨v1, hv1⟩ : ∃ v, netI z n1 xp bk oth rop = v := ⟨_, rfl⟩
      rw [hv1] at b2
      have H1 := Lib.hid hv1
      have hb4 : ¬ v1 < 0 := by omega
      rcases Int.lt_or_le 0 bk with b4 | b4
      · obtain ⟨v2, hv2⟩ : ∃ v, netI z n1 xp (bk - 1) oth rop = v := ⟨_, rfl⟩
        rw [hv2] at b3
        have H2 := Lib.hid hv2
        have hb5 : ¬ 0 ≤ v2 := by omega
        clear hv1 hv2
        go_wp2_with (first
          | (go_at_call 22; (with_reducible refine (specNet_v HT.out HN.out xp0 xpN (k0 := b0) (k1 := b1) (o0 := by omega) (o1 := by omega) (r0 := by omega) (r1 := by omega) H1.out hz1 hn1 _ HRWw10.out).mono ?_); rintro e w11 ⟨rfl, hbx⟩; have HBw11 := Lib.hid (HBw10.out.trans (hbx.mono HBw10.out.size)); have TBw11 := Lib.hid (TBw10.out.below hbx); have HRWw11 := Lib.hid (HRWw10.out.below hbx); clear hbx pc0 pc1 pc2; obtain ⟨pc0, pc1, pc2, pl⟩ := TBw11.out)
          | (go_at_call 22; (with_reducible refine (specNet_v HT.out HN.out xp0 xpN (k0 := show 0 ≤ bk - 1 by omega) (k1 := by omega) (o0 := by omega) (o1 := by omega) (r0 := by omega) (r1 := by omega) H2.out hz1 hn1 _ HRWw11.out).mono ?_); rintro e w12 ⟨rfl, hbx⟩; have HBw12 := Lib.hid (HBw11.out.trans (hbx.mono HBw11.out.size)); have TBw12 := Lib.hid (TBw11.out.below hbx); have HRWw12 := Lib.hid (HRWw11.out.below hbx); clear hbx pc0 pc1 pc2; obtain ⟨pc0, pc1, pc2, pl⟩ := TBw12.out))
        go_meet
        case rel => exact ⟨HBw12.out, TBw12.out, HRWw12.out⟩
      · obtain rfl : bk = 0 := by omega
        clear hv1
        go_wp2_with (first
          | (go_at_call 22; (with_reducible refine (specNet_v HT.out HN.out xp0 xpN (k0 := Int.le_refl 0) (k1 := by omega) (o0 := by omega) (o1 := by omega) (r0 := by omega) (r1 := by omega) H1.out hz1 hn1 _ HRWw10.out).mono ?_); rintro e w11 ⟨rfl, hbx⟩; have HBw11 := Lib.hid (HBw10.out.trans (hbx.mono HBw10.out.size)); have TBw11 := Lib.hid (TBw10.out.below hbx); have HRWw11 := Lib.hid (HRWw10.out.below hbx); clear hbx pc0 pc1 pc2; obtain ⟨pc0, pc1, pc2, pl⟩ := TBw11.out)
          | (go_at_call 22; (refine (specNet_n HT.out HN.out hz1 hn1 _ HRWw11.out).mono ?_); rintro e w12 ⟨rfl, hbx⟩; have HBw12 := Lib.hid (HBw11.out.trans (hbx.mono HBw11.out.size)); have TBw12 := Lib.hid (TBw11.out.below hbx); have HRWw12 := Lib.hid (HRWw11.out.below hbx); clear hbx pc0 pc1 pc2; obtain ⟨pc0, pc1, pc2, pl⟩ := TBw12.out))
        go_meet
        case rel => exact ⟨HBw12.out, TBw12.out, HRWw12.out⟩
  case rest => as_aux_lemma =>
    obtain ⟨h1, h2, h3⟩ := hcut
    have HBwc := Lib.hid h1
    have TBwc := Lib.hid h2
    have HRWwc := Lib.hid h3
    clear h1 h2 h3 pc0 pc1 pc2 HBw10 TBw10 HRWw10
    obtain ⟨pc0, pc1, pc2, pl⟩ := TBwc.out
    have hl0 : 0 ≤ lenTo z n1 := by rw [HN.out]; omega
    obtain ⟨⟨e1, e2, e3, e4⟩, e5⟩ := bestI_is (val := fun y => absI (netI z n1 y kil oth rop)) (len := lenTo z n1) (step := 40000) (by omega) hl0
    obtain ⟨⟨i1, i2, i3, i4⟩, i5⟩ := bestI_is (val := fun y => tenI z n1 y kil rop) (len := lenTo z n1) (step := 40000) (by omega) hl0
    have j1 := workF_pos (z := z) (n := n1) (k := kil) (o := oth) (r := rop) (step := 40000) (by omega) (lenTo z n1).toNat 0 0 (by omega)
    obtain ⟨at_, hat⟩ : ∃ v, (bestI (fun y => absI (netI z n1 y kil oth rop)) (lenTo z n1) 40000).1 = v := ⟨_, rfl⟩
    obtain ⟨fc, hfc⟩ : ∃ v, netI z n1 at_ kil oth rop = v := ⟨_, rfl⟩
    obtain ⟨plc, hplc⟩ : ∃ v, (bestI (fun y => tenI z n1 y kil rop) (lenTo z n1) 40000).1 = v := ⟨_, rfl⟩
    obtain ⟨most, hmost⟩ : ∃ v, (bestI (fun y => tenI z n1 y kil rop) (lenTo z n1) 40000).2 = v := ⟨_, rfl⟩
    obtain ⟨wk, hwk⟩ : ∃ v, workI z n1 kil oth rop 40000 = v := ⟨_, rfl⟩
    obtain ⟨zr, zq, hzr⟩ : ∃ v q, zeroI z n1 kil oth rop 40000 = (v, q) := ⟨_, _, rfl⟩
    obtain ⟨frs, hfrs⟩ : ∃ v, netI z n1 0 kil oth rop = v := ⟨_, rfl⟩
    have hplm : tenI z n1 plc kil rop = most := by rw [← hplc, ← hmost]; exact i1.symm
    rw [hat] at e1 e2 e3 e4
    rw [hplc] at i2 i3 i4
    have j2 : 0 ≤ wk := by rw [← hwk]; exact j1
    rw [HN.out] at e3 i3
    have hfb := netI_bd HS.out (by omega) (x := at_) (kilos := kil) (other := oth) (rope := rop) (by omega) (by omega) (by omega) (by omega) (by omega) (by omega) e2 (by rw [HN.out]; exact e3) (by rw [HN.out]; omega)
    rw [hfc] at hfb
    have HM1 := Lib.hid (show ∀ j : Nat, 40000 * (j : Int) ≤ N → absI (netI z n1 (40000 * j) kil oth rop) ≤ absI fc from fun j hj => by
      have := e5 j (by rw [HN.out]; exact hj)
      rw [e1, hfc] at this
      exact this)
    have HM2 := Lib.hid (show ∀ j : Nat, 40000 * (j : Int) ≤ N → tenI z n1 (40000 * j) kil rop ≤ most from fun j hj => by
      have := i5 j (by rw [HN.out]; exact hj)
      rw [hmost] at this
      exact this)
    have H1 := Lib.hid hat
    have H2 := Lib.hid hfc
    have H3 := Lib.hid hplc
    have H4 := Lib.hid hmost
    have H5 := Lib.hid hwk
    have H6 := Lib.hid hzr
    have H7 := Lib.hid hfrs
    have H8 := Lib.hid hplm
    have t1 : ¬ at_ < 0 := by omega
    have t2 : ¬ N < at_ := by omega
    have t3 : at_.tmod 40000 = 0 := by rw [Int.tmod_eq_emod_of_nonneg e2]; exact e4
    have t4 : ¬ plc < 0 := by omega
    have t5 : ¬ N < plc := by omega
    have t6 : ¬ wk < 0 := by omega
    clear hat hfc hplc hmost hwk hzr hfrs hplm e1 e4 e5 i1 i4 i5 j1
    go_wp2_with (first
      | (go_at_call 33; (with_reducible refine (gnet_v HT.out HN.out (k0 := by omega) (k1 := by omega) (o0 := by omega) (o1 := by omega) (r0 := by omega) (r1 := by omega) H1.out H2.out hz1 hn1 _ HRWwc.out).mono ?_); rintro e w13 ⟨rfl, hbx⟩; have HBw13 := Lib.hid (HBwc.out.trans (hbx.mono HBwc.out.size)); have TBw13 := Lib.hid (TBwc.out.below hbx); have HRWw13 := Lib.hid (HRWwc.out.below hbx); clear hbx pc0 pc1 pc2; obtain ⟨pc0, pc1, pc2, pl⟩ := TBw13.out)
      | (go_at_call 25; (with_reducible refine (gten_v HT.out HN.out (k0 := by omega) (k1 := by omega) (r0 := by omega) (r1 := by omega) H3.out H4.out hz1 hn1 _ HRWw13.out).mono ?_); rintro e w14 ⟨rfl, hbx⟩; have HBw14 := Lib.hid (HBw13.out.trans (hbx.mono HBw13.out.size)); have TBw14 := Lib.hid (TBw13.out.below hbx); have HRWw14 := Lib.hid (HRWw13.out.below hbx); clear hbx pc0 pc1 pc2; obtain ⟨pc0, pc1, pc2, pl⟩ := TBw14.out)
      | (go_at_call 29; (with_reducible refine (work_v HT.out HN.out (k0 := by omega) (k1 := by omega) (o0 := by omega) (o1 := by omega) (r0 := by omega) (r1 := by omega) H5.out hz1 hn1 _ HRWw14.out).mono ?_); rintro e w15 ⟨rfl, hbx⟩; have HBw15 := Lib.hid (HBw14.out.trans (hbx.mono HBw14.out.size)); have TBw15 := Lib.hid (TBw14.out.below hbx); have HRWw15 := Lib.hid (HRWw14.out.below hbx); clear hbx pc0 pc1 pc2; obtain ⟨pc0, pc1, pc2, pl⟩ := TBw15.out)
      | (go_at_call 27; (with_reducible refine (zero_v HT.out HN.out (k0 := by omega) (k1 := by omega) (o0 := by omega) (o1 := by omega) (r0 := by omega) (r1 := by omega) H6.out hz1 hn1 _ HRWw15.out).mono ?_); rintro e w16 ⟨rfl, hbx⟩; have HBw16 := Lib.hid (HBw15.out.trans (hbx.mono HBw15.out.size)); have TBw16 := Lib.hid (TBw15.out.below hbx); have HRWw16 := Lib.hid (HRWw15.out.below hbx); clear hbx pc0 pc1 pc2; obtain ⟨pc0, pc1, pc2, pl⟩ := TBw16.out)
      | (go_at_call 22; (with_reducible refine (specNet_v HT.out HN.out e2 e3 (k0 := by omega) (k1 := by omega) (o0 := by omega) (o1 := by omega) (r0 := by omega) (r1 := by omega) H2.out hz1 hn1 _ HRWw16.out).mono ?_); rintro e w17 ⟨rfl, hbx⟩; have HBw17 := Lib.hid (HBw16.out.trans (hbx.mono HBw16.out.size)); have TBw17 := Lib.hid (TBw16.out.below hbx); have HRWw17 := Lib.hid (HRWw16.out.below hbx); clear hbx pc0 pc1 pc2; obtain ⟨pc0, pc1, pc2, pl⟩ := TBw17.out)
      | (go_at_call 22; (with_reducible refine (specNet_v HT.out HN.out (Int.le_refl 0) (by omega) (k0 := by omega) (k1 := by omega) (o0 := by omega) (o1 := by omega) (r0 := by omega) (r1 := by omega) H7.out hz1 hn1 _ HRWw17.out).mono ?_); rintro e w18 ⟨rfl, hbx⟩; have HBw18 := Lib.hid (HBw17.out.trans (hbx.mono HBw17.out.size)); have TBw18 := Lib.hid (TBw17.out.below hbx); have HRWw18 := Lib.hid (HRWw17.out.below hbx); clear hbx pc0 pc1 pc2; obtain ⟨pc0, pc1, pc2, pl⟩ := TBw18.out)
      | (go_at_call 20; (with_reducible refine (specTen_v HT.out HN.out i2 i3 (k0 := by omega) (k1 := by omega) (r0 := by omega) (r1 := by omega) H8.out hz1 hn1 _ HRWw18.out).mono ?_); rintro e w19 ⟨rfl, hbx⟩; have HBw19 := Lib.hid (HBw18.out.trans (hbx.mono HBw18.out.size)); have TBw19 := Lib.hid (TBw18.out.below hbx); have HRWw19 := Lib.hid (HRWw18.out.below hbx); clear hbx pc0 pc1 pc2; obtain ⟨pc0, pc1, pc2, pl⟩ := TBw19.out))
    clear HBwc TBwc HRWwc HBw13 TBw13 HRWw13 HBw14 TBw14 HRWw14 HBw15 TBw15 HRWw15 HBw16 TBw16 HRWw16 HBw17 TBw17 HRWw17 HBw18 TBw18 HRWw18 H1 H2 H3 H4 H5 H8 t1 t2 t3 t4 t5 t6 pc0 pc1 pc2
    go_loopw [46, 47] (fun ch y wr => ∃ i : Nat, y = .int .i64 (40000 * (i : Int)) ∧ ch = .int .i64 (chgTo z n1 kil oth rop 40000 i) ∧ 40000 * (i : Int) ≤ N + 40000 ∧ Hid (Below w.heap.size w wr) ∧ Hid (TrackBox bx A1 n1 c1 f u wr) ∧ Hid (RowI wr A1 z)) (fun _ y _ => (N + 40000 - intOf y).toNat)
    case atStart => exact ⟨0, by simp, rfl, by omega, HBw19, TBw19, HRWw19⟩
    case round => as_aux_lemma =>
      obtain ⟨i, rfl, rfl, hi, HBwr, TBwr, HRWwr⟩ := hrel
      clear HBw19 TBw19 HRWw19
      obtain ⟨pc0, pc1, pc2, pl⟩ := TBwr.out
      have hch1 := chg_bd z n1 kil oth rop i
      by_cases hy : 40000 * (i : Int) ≤ N
      · obtain ⟨v1, hv1⟩ : ∃ v, netI z n1 (40000 * (i : Int)) kil oth rop = v := ⟨_, rfl⟩
        obtain ⟨v2, hv2⟩ : ∃ v, tenI z n1 (40000 * (i : Int)) kil rop = v := ⟨_, rfl⟩
        have m1 := HM1.out i hy
        have m2 := HM2.out i hy
        have nb := netI_bd HS.out (by omega) (x := 40000 * (i : Int)) (kilos := kil) (other := oth) (rope := rop) (by omega) (by omega) (by omega) (by omega) (by omega) (by omega) (by omega) (by rw [HN.out]; exact hy) (by rw [HN.out]; omega)
        rw [hv1] at m1 nb
        rw [hv2] at m2
        have K1 := Lib.hid hv1
        have K2 := Lib.hid hv2
        have s1 : ¬ absI fc < absI v1 := by omega
        have s2 : ¬ most < v2 := by omega
        have HCB := Lib.hid (show chgB z n1 kil oth rop 40000 i = (decide (0 < frs) != decide (0 < v1)) by unfold chgB; rw [hv1, H7.out, bne_comm])
        have HCS := Lib.hid (show chgTo z n1 kil oth rop 40000 (i + 1) = if chgTo z n1 kil oth rop 40000 i < 0 ∧ 0 < i ∧ chgB z n1 kil oth rop 40000 i = true then 40000 * (i : Int) else chgTo z n1 kil oth rop 40000 i from rfl)
        clear hv1 hv2
        generalize chgTo z n1 kil oth rop 40000 i = ch at *
        have hi4 : 40000 * ((i : Int) + 1) = 40000 * (i : Int) + 40000 := by omega
        rcases Int.lt_or_le ch 0 with p1 | p1
        · rcases Nat.eq_zero_or_pos i with p2 | p2
          · have p2' : ¬ (0 : Int) < 40000 * (i : Int) := by omega
            have PN := Lib.hid (show ¬ (ch < 0 ∧ 0 < i ∧ chgB z n1 kil oth rop 40000 i = true) from fun h => by have := h.2.1; omega)
            clear p2
            go_wp2_with (first
              | (go_at_call 22; (with_reducible refine (specNet_v HT.out HN.out (show 0 ≤ 40000 * (i : Int) by omega) hy (k0 := by omega) (k1 := by omega) (o0 := by omega) (o1 := by omega) (r0 := by omega) (r1 := by omega) K1.out hz1 hn1 _ HRWwr.out).mono ?_); rintro e w20 ⟨rfl, hbx⟩; have HBw20 := Lib.hid (HBwr.out.trans (hbx.mono HBwr.out.size)); have TBw20 := Lib.hid (TBwr.out.below hbx); have HRWw20 := Lib.hid (HRWwr.out.below hbx); clear hbx pc0 pc1 pc2; obtain ⟨pc0, pc1, pc2, pl⟩ := TBw20.out)
              | (go_at_call 20; (with_reducible refine (specTen_v HT.out HN.out (show 0 ≤ 40000 * (i : Int) by omega) hy (k0 := by omega) (k1 := by omega) (r0 := by omega) (r1 := by omega) K2.out hz1 hn1 _ HRWw20.out).mono ?_); rintro e w21 ⟨rfl, hbx⟩; have HBw21 := Lib.hid (HBw20.out.trans (hbx.mono HBw20.out.size)); have TBw21 := Lib.hid (TBw20.out.below hbx); have HRWw21 := Lib.hid (HRWw20.out.below hbx); clear hbx pc0 pc1 pc2; obtain ⟨pc0, pc1, pc2, pl⟩ := TBw21.out)
              | (go_at_call 38; (with_reducible refine (r8Abs_c v1 (by omega) (by omega) _).mono ?_); rintro e w' ⟨rfl, rfl⟩)
              | (go_at_call 38; (with_reducible refine (r8Abs_c fc (by omega) (by omega) _).mono ?_); rintro e w' ⟨rfl, rfl⟩))
            go_roundw
            case rel => exact ⟨i + 1, by first | rfl | (simp; omega) | (congr 1; omega), by rw [HCS.out, if_neg PN.out], by omega, HBw21, TBw21, HRWw21⟩
            case measure => simp [intOf]; omega
          · have p2' : (0 : Int) < 40000 * (i : Int) := by omega
            have hcb := HCB.out
            cases hcv : chgB z n1 kil oth rop 40000 i
            · rw [hcv] at hcb
              have hcb2 : (!decide (0 < frs) == decide (0 < v1)) = false := by rw [hcb]; cases decide (0 < frs) <;> cases decide (0 < v1) <;> rfl
              have PN := Lib.hid (show ¬ (ch < 0 ∧ 0 < i ∧ chgB z n1 kil oth rop 40000 i = true) from fun h => by have := h.2.2; rw [hcv] at this; cases this)
              clear hcb hcv p2
              go_wp2_with (first
                | (go_at_call 22; (with_reducible refine (specNet_v HT.out HN.out (show 0 ≤ 40000 * (i : Int) by omega) hy (k0 := by omega) (k1 := by omega) (o0 := by omega) (o1 := by omega) (r0 := by omega) (r1 := by omega) K1.out hz1 hn1 _ HRWwr.out).mono ?_); rintro e w20 ⟨rfl, hbx⟩; have HBw20 := Lib.hid (HBwr.out.trans (hbx.mono HBwr.out.size)); have TBw20 := Lib.hid (TBwr.out.below hbx); have HRWw20 := Lib.hid (HRWwr.out.below hbx); clear hbx pc0 pc1 pc2; obtain ⟨pc0, pc1, pc2, pl⟩ := TBw20.out)
                | (go_at_call 20; (with_reducible refine (specTen_v HT.out HN.out (show 0 ≤ 40000 * (i : Int) by omega) hy (k0 := by omega) (k1 := by omega) (r0 := by omega) (r1 := by omega) K2.out hz1 hn1 _ HRWw20.out).mono ?_); rintro e w21 ⟨rfl, hbx⟩; have HBw21 := Lib.hid (HBw20.out.trans (hbx.mono HBw20.out.size)); have TBw21 := Lib.hid (TBw20.out.below hbx); have HRWw21 := Lib.hid (HRWw20.out.below hbx); clear hbx pc0 pc1 pc2; obtain ⟨pc0, pc1, pc2, pl⟩ := TBw21.out)
                | (go_at_call 38; (with_reducible refine (r8Abs_c v1 (by omega) (by omega) _).mono ?_); rintro e w' ⟨rfl, rfl⟩)
                | (go_at_call 38; (with_reducible refine (r8Abs_c fc (by omega) (by omega) _).mono ?_); rintro e w' ⟨rfl, rfl⟩))
              go_roundw
              case rel => exact ⟨i + 1, by first | rfl | (simp; omega) | (congr 1; omega), by rw [HCS.out, if_neg PN.out], by omega, HBw21, TBw21, HRWw21⟩
              case measure => simp [intOf]; omega
            · rw [hcv] at hcb
              have hcb2 : (!decide (0 < frs) == decide (0 < v1)) = true := by rw [hcb]; cases decide (0 < frs) <;> cases decide (0 < v1) <;> rfl
              have PN := Lib.hid (show (ch < 0 ∧ 0 < i ∧ chgB z n1 kil oth rop 40000 i = true) from ⟨p1, p2, hcv⟩)
              clear hcb hcv p2
              go_wp2_with (first
                | (go_at_call 22; (with_reducible refine (specNet_v HT.out HN.out (show 0 ≤ 40000 * (i : Int) by omega) hy (k0 := by omega) (k1 := by omega) (o0 := by omega) (o1 := by omega) (r0 := by omega) (r1 := by omega) K1.out hz1 hn1 _ HRWwr.out).mono ?_); rintro e w20 ⟨rfl, hbx⟩; have HBw20 := Lib.hid (HBwr.out.trans (hbx.mono HBwr.out.size)); have TBw20 := Lib.hid (TBwr.out.below hbx); have HRWw20 := Lib.hid (HRWwr.out.below hbx); clear hbx pc0 pc1 pc2; obtain ⟨pc0, pc1, pc2, pl⟩ := TBw20.out)
                | (go_at_call 20; (with_reducible refine (specTen_v HT.out HN.out (show 0 ≤ 40000 * (i : Int) by omega) hy (k0 := by omega) (k1 := by omega) (r0 := by omega) (r1 := by omega) K2.out hz1 hn1 _ HRWw20.out).mono ?_); rintro e w21 ⟨rfl, hbx⟩; have HBw21 := Lib.hid (HBw20.out.trans (hbx.mono HBw20.out.size)); have TBw21 := Lib.hid (TBw20.out.below hbx); have HRWw21 := Lib.hid (HRWw20.out.below hbx); clear hbx pc0 pc1 pc2; obtain ⟨pc0, pc1, pc2, pl⟩ := TBw21.out)
                | (go_at_call 38; (with_reducible refine (r8Abs_c v1 (by omega) (by omega) _).mono ?_); rintro e w' ⟨rfl, rfl⟩)
                | (go_at_call 38; (with_reducible refine (r8Abs_c fc (by omega) (by omega) _).mono ?_); rintro e w' ⟨rfl, rfl⟩))
              go_roundw
              case rel => exact ⟨i + 1, by first | rfl | (simp; omega) | (congr 1; omega), by rw [HCS.out, if_pos PN.out], by omega, HBw21, TBw21, HRWw21⟩
              case measure => simp [intOf]; omega
        · have p1' : ¬ ch < 0 := by omega
          have PN := Lib.hid (show ¬ (ch < 0 ∧ 0 < i ∧ chgB z n1 kil oth rop 40000 i = true) from fun h => by have := h.1; omega)
          go_wp2_with (first
            | (go_at_call 22; (with_reducible refine (specNet_v HT.out HN.out (show 0 ≤ 40000 * (i : Int) by omega) hy (k0 := by omega) (k1 := by omega) (o0 := by omega) (o1 := by omega) (r0 := by omega) (r1 := by omega) K1.out hz1 hn1 _ HRWwr.out).mono ?_); rintro e w20 ⟨rfl, hbx⟩; have HBw20 := Lib.hid (HBwr.out.trans (hbx.mono HBwr.out.size)); have TBw20 := Lib.hid (TBwr.out.below hbx); have HRWw20 := Lib.hid (HRWwr.out.below hbx); clear hbx pc0 pc1 pc2; obtain ⟨pc0, pc1, pc2, pl⟩ := TBw20.out)
            | (go_at_call 20; (with_reducible refine (specTen_v HT.out HN.out (show 0 ≤ 40000 * (i : Int) by omega) hy (k0 := by omega) (k1 := by omega) (r0 := by omega) (r1 := by omega) K2.out hz1 hn1 _ HRWw20.out).mono ?_); rintro e w21 ⟨rfl, hbx⟩; have HBw21 := Lib.hid (HBw20.out.trans (hbx.mono HBw20.out.size)); have TBw21 := Lib.hid (TBw20.out.below hbx); have HRWw21 := Lib.hid (HRWw20.out.below hbx); clear hbx pc0 pc1 pc2; obtain ⟨pc0, pc1, pc2, pl⟩ := TBw21.out)
            | (go_at_call 38; (with_reducible refine (r8Abs_c v1 (by omega) (by omega) _).mono ?_); rintro e w' ⟨rfl, rfl⟩)
            | (go_at_call 38; (with_reducible refine (r8Abs_c fc (by omega) (by omega) _).mono ?_); rintro e w' ⟨rfl, rfl⟩))
          go_roundw
          case rel => exact ⟨i + 1, by first | rfl | (simp; omega) | (congr 1; omega), by rw [HCS.out, if_neg PN.out], by omega, HBw21, TBw21, HRWw21⟩
          case measure => simp [intOf]; omega
      · have hz0 : 0 ≤ lenTo z n1 := by rw [HN.out]; omega
        have hmon : ∀ j : Nat, j < i → 40000 * (j : Int) ≤ lenTo z n1 := fun j hj => by rw [HN.out]; omega
        rcases zeroI_is (z := z) (n := n1) (k := kil) (o := oth) (r := rop) (step := 40000) (by omega) hz0 (I := i) (by rw [HN.out]; omega) hmon with ⟨c0, ce⟩ | ⟨c0, ce⟩
        · rw [H6.out] at ce
          injection ce with ce1 ce2
          subst ce1
          subst ce2
          generalize chgTo z n1 kil oth rop 40000 i = ch at *
          go_wp2
          go_returns
          exact ⟨by simp [c0], HBwr.out⟩
        · rw [H6.out] at ce
          injection ce with ce1 ce2
          subst ce1
          subst ce2
          rw [c0]
          go_wp2
          go_returns
          exact ⟨by simp, HBwr.out⟩
end Go.Proofs.Ytmkfkpfblnblgaa
