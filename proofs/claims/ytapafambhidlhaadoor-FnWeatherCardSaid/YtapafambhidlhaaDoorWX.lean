/- FnWeather. -/
import Derived.Test.YtapafambhidlhaaDoorWV
import Derived.Deep.CutRange
import Derived.Deep.RegionHeld3
namespace Go.Proofs.YtapafambhidlhaaDoor
open Go.ChangeShapes Go.WideShapes Go.ChangeAt Go.RowKit Go.Shelf
set_option linter.unusedVariables false
set_option linter.unusedSimpArgs false

set_option maxRecDepth 100000 in
set_option maxHeartbeats 8000000 in
theorem walk_FnWeather (A : Option Addr) (n c : Nat) (C : Option Addr) (m c' : Nat) (w : World) (hA : ByteArg w A n) (hC : ByteArg w C m) (hE : EnvL w) : Calls Tryd.prog 3 #[.slice A n c, .slice C m c'] w fun e w' => e = .returned (.bool true) ∧ Below w.heap.size w w' := by
  obtain ⟨hn9, hrA⟩ := hA
  obtain ⟨hm9, hrC⟩ := hC
  have HE := Lib.hid hE
  clear hE
  rcases Nat.lt_or_ge 1048576 n with hn | hn
  · go_enter Tryd.func3, Tryd.ntmps3
    go_wp2_with (go_at_call 4; (refine (b10Long_y hn _ _ _).mono ?_); rintro e w' ⟨rfl, rfl⟩)
    go_returns
    exact ⟨by simp, Below.refl _ _⟩
  rcases Nat.lt_or_ge 1048576 m with hm | hm
  · go_enter Tryd.func3, Tryd.ntmps3
    go_wp2_with (first
      | (go_at_call 4; (with_reducible refine (b10Long_n hn A c _).mono ?_); rintro e w' ⟨rfl, rfl⟩)
      | (go_at_call 4; (with_reducible refine (b10Long_y hm C c' _).mono ?_); rintro e w' ⟨rfl, rfl⟩))
    go_returns
    exact ⟨by simp, Below.refl _ _⟩
  have HRC := Lib.hid hrC
  clear hrC
  go_enter Tryd.func3, Tryd.ntmps3
  go_wp2_with (first
    | (go_at_call 4; (with_reducible refine (b10Long_n hn A c _).mono ?_); rintro e w' ⟨rfl, rfl⟩)
    | (go_at_call 4; (with_reducible refine (b10Long_n hm C c' _).mono ?_); rintro e w' ⟨rfl, rfl⟩)
    | (go_at_call 5; (with_reducible refine (DrawKindsOf_c A n c hn _ hrA).mono ?_); rintro e w1 ⟨⟨r, d, x, rfl⟩, hb1⟩))
  have BX2 := Box3.new w1 25 r d x
  have hb2 : Below w.heap.size w (w1.alloc (.cells #[.int .i64 r, .int .i64 d, .int .i64 x] 25)) := hb1.alloc hb1.size _
  have z1s := hb1.size
  generalize w1.alloc (.cells #[.int .i64 r, .int .i64 d, .int .i64 x] 25) = w2 at *
  generalize hbx : w1.heap.size = bx at *
  have BX2 := Lib.hid BX2
  have HB2 := Lib.hid hb2
  clear hb1 hb2 hbx z1s
  obtain ⟨l0, c0, c1, c2, _⟩ := BX2.out
  obtain ⟨ks, g, q, hK, hG, hkl, hq0⟩ := kg r d x
  have HK := Lib.hid hK
  have HG := Lib.hid hG
  have HQ := Lib.hid hq0
  clear hK hG hq0
  go_upto_if 48 with (first
    | (go_at_call 6; (with_reducible refine (implKO_v HK.out _).mono ?_); rintro e w3 ⟨v3, rfl, hO3, hb⟩; obtain ⟨A3, c3, rfl, hI3⟩ := hO3.slice; have HO3 := Lib.hid hI3; clear hO3 hI3; have HB3 := Lib.hid (HB2.out.trans (hb.mono HB2.out.size)); have BX3 := Lib.hid (BX2.out.below hb); clear hb c0 c1 c2; obtain ⟨l0, c0, c1, c2, _⟩ := BX3.out)
    | (go_at_call 7; (with_reducible refine (implGO_v HG.out _).mono ?_); rintro e w4 ⟨rfl, hb⟩; have HB4 := Lib.hid (HB3.out.trans (hb.mono HB3.out.size)); have HO4 := Lib.hid (HO3.out.below hb); have BX4 := Lib.hid (BX3.out.below hb); clear hb c0 c1 c2; obtain ⟨l0, c0, c1, c2, _⟩ := BX4.out))
  go_cut [7, 9] from 49 to 168 (fun _ _ wx => Below w.heap.size w wx)
  case first =>
    by_cases hq : q = 0
    · subst hq
      obtain ⟨hok, hks, hg⟩ := HQ.out rfl
      have g60 := (gripI_bd r d x).1
      have g350 := (gripI_bd r d x).2
      have gb := grip_best hok
      obtain ⟨⟨r0, r1⟩, ⟨d0, d1⟩, ⟨x0, x1⟩⟩ := hourOk_true hok
      have HS := Lib.hid (stop_1000 hok)
      obtain ⟨tl, htl⟩ : ∃ l, txtHourText r d x = l := ⟨_, rfl⟩
      have htlen := txtHour_len hok
      have hrd := rd_txtHour hok
      rw [htl] at htlen hrd
      have HT := Lib.hid htl
      have HL := Lib.hid htlen
      have HRD := Lib.hid (show rdHour (ByteArray.mk tl.toArray).data.toList = ([r, d, x], true) from hrd)
      rw [← hg] at g60 g350 gb HS
      obtain ⟨an1, an2, an3, an4⟩ := kinds_any r d x
      have KI := kinds_in r d x
      have KU := kinds_up r d x
      rw [← hks] at an1 an2 an3 an4 KI KU
      rw [kindB3] at an3
      rw [kindB4] at an4
      have AN1 := Lib.hid an1
      have AN2 := Lib.hid an2
      have AN3 := Lib.hid an3
      have AN4 := Lib.hid an4
      have KIN := Lib.hid KI
      have KUP := Lib.hid KU
      have gn1 : ¬ g < 60 := by omega
      have gn2 : ¬ 350 < g := by omega
      have GB := Lib.hid gb
      clear hks hg htl htlen hrd an1 an2 an3 an4 KI KU g60 g350 gb
      go_upto_region 9 with fail
      go_cut [10] from 49 to 56 (fun b wx => b = .bool (kindB 1 r d x) ∧ w4 = wx)
      case first =>
        by_cases h0 : 0 < r
        · go_wp2
          go_meet
          case rel => exact ⟨by simp [kindB1, h0], rfl⟩
        · go_wp2
          go_meet
          case rel => exact ⟨by rw [kindB1, show decide (0 < r) = false by simpa using h0]; rfl, rfl⟩
      case rest =>
        obtain ⟨rfl, rfl⟩ := hcut
        go_upto_region 10 with fail
        go_cut [11] from 57 to 64 (fun b wx => b = .bool (kindB 2 r d x) ∧ w4 = wx)
        case first =>
          by_cases h0 : 0 < r
          · go_wp2
            go_meet
            case rel => exact ⟨by simp [kindB2, h0], rfl⟩
          · go_wp2
            go_meet
            case rel => exact ⟨by rw [kindB2, show decide (0 < r) = false by simpa using h0]; rfl, rfl⟩
        case rest =>
          obtain ⟨rfl, rfl⟩ := hcut
          generalize kindB 1 r d x = k1 at *
          generalize kindB 2 r d x = k2 at *
          go_upto_region 12 with (first
            | (go_at_call 9; (with_reducible refine (implHT_v HT.out _ (HE.out.below HB4.out).tab).mono ?_); rintro e w5 ⟨rfl, hb⟩; have HB5 := Lib.hid (HB4.out.trans (hb.mono HB4.out.size)); have HO5 := Lib.hid (HO4.out.below hb); have BX5 := Lib.hid (BX4.out.below hb); clear hb c0 c1 c2; obtain ⟨l0, c0, c1, c2, _⟩ := BX5.out)
            | (go_at_call 8; (with_reducible refine (implReadHour_v ⟨tl.toArray⟩ HL.out r d x true HRD.out _ (HE.out.below HB5.out)).mono ?_); rintro e w6 ⟨rfl, hb⟩; have HB6 := Lib.hid (HB5.out.trans (hb.mono HB5.out.size)); have HO6 := Lib.hid (HO5.out.below hb); have BX6 := Lib.hid (BX5.out.below hb); clear hb c0 c1 c2; obtain ⟨l0, c0, c1, c2, _⟩ := BX6.out))
          have BR7 := Box3.new w6 25 r d x
          have hb7 : Below w6.heap.size w6 (w6.alloc (.cells #[.int .i64 r, .int .i64 d, .int .i64 x] 25)) := (Below.refl _ _).alloc (Nat.le_refl _) _
          generalize w6.alloc (.cells #[.int .i64 r, .int .i64 d, .int .i64 x] 25) = w7 at *
          have HB7 := Lib.hid (HB6.out.trans (hb7.mono HB6.out.size))
          have HO7 := Lib.hid (HO6.out.below hb7)
          have BX7 := Lib.hid (BX6.out.below hb7)
          generalize w6.heap.size = br at *
          have BR7 := Lib.hid BR7
          clear hb7 c0 c1 c2
          obtain ⟨l0, c0, c1, c2, _⟩ := BX7.out
          obtain ⟨m0, e0, e1, e2, _⟩ := BR7.out
          go_upto_region 13 with (go_at_call 10; (with_reducible refine (implSS_v HS.out _).mono ?_); rintro e w8 ⟨rfl, hb⟩; have HB8 := Lib.hid (HB7.out.trans (hb.mono HB7.out.size)); have HO8 := Lib.hid (HO7.out.below hb); have BX8 := Lib.hid (BX7.out.below hb); have hb9 := hb; clear hb c0 c1 c2; obtain ⟨l0, c0, c1, c2, _⟩ := BX8.out; have BR8 := Lib.hid (BR7.out.below hb9); clear hb9 e0 e1 e2; obtain ⟨m0, e0, e1, e2, _⟩ := BR8.out)
          go_cut [140] from 76 to 140 (fun b wx => b = .bool false ∧ ∃ q, wx = w8.drewN q)
          case first =>
            have f1 : (k1 != k1) = false := by simp
            have f2 : (k2 != k2) = false := by simp
            have f3 : (decide (150 < x) != decide (150 < x)) = false := by simp
            have f4 : (decide (d < -100) != decide (d < -100)) = false := by simp
            have f5 : decide (g < 60) = false := by simp; omega
            have f6 : decide (350 < g) = false := by simp; omega
            rcases Int.lt_or_le 0 r with h0 | h0
            · have hr0 : (r == 0) = false := by simp; omega
              have hg0 : (g == 350) = false := by have := GB.out; simp; omega
              dsimp only [List.append]
              go_big_quiet ((go_at_call 11; apply quiet_left; first
                  | with_reducible refine b10Has_v rfl AN1.out (by omega) _ (HO8.out.drewN _)
                  | with_reducible refine b10Has_v rfl AN2.out (by omega) _ (HO8.out.drewN _)
                  | with_reducible refine b10Has_v rfl AN3.out (by omega) _ (HO8.out.drewN _)
                  | with_reducible refine b10Has_v rfl AN4.out (by omega) _ (HO8.out.drewN _)))
              go_wp2
              go_meet
              case rel => exact ⟨rfl, _, rfl⟩
            · obtain rfl : r = 0 := by omega
              by_cases h4 : d < -100
              · have hd4 : decide (-100 ≤ d) = false := by simp; omega
                have hg0 : (g == 350) = false := by have := GB.out; simp; omega
                dsimp only [List.append]
                go_big_quiet ((go_at_call 11; apply quiet_left; first
                    | with_reducible refine b10Has_v rfl AN1.out (by omega) _ (HO8.out.drewN _)
                    | with_reducible refine b10Has_v rfl AN2.out (by omega) _ (HO8.out.drewN _)
                    | with_reducible refine b10Has_v rfl AN3.out (by omega) _ (HO8.out.drewN _)
                    | with_reducible refine b10Has_v rfl AN4.out (by omega) _ (HO8.out.drewN _)))
                go_wp2
                go_meet
                case rel => exact ⟨rfl, _, rfl⟩
              · have hd4 : decide (-100 ≤ d) = true := by simp; omega
                have hg0 : (g == 350) = true := by have := GB.out; simp; omega
                dsimp only [List.append]
                go_big_quiet ((go_at_call 11; apply quiet_left; first
                    | with_reducible refine b10Has_v rfl AN1.out (by omega) _ (HO8.out.drewN _)
                    | with_reducible refine b10Has_v rfl AN2.out (by omega) _ (HO8.out.drewN _)
                    | with_reducible refine b10Has_v rfl AN3.out (by omega) _ (HO8.out.drewN _)
                    | with_reducible refine b10Has_v rfl AN4.out (by omega) _ (HO8.out.drewN _)))
                go_wp2
                go_meet
                case rel => exact ⟨rfl, _, rfl⟩
          case rest =>
            obtain ⟨rfl, q8, rfl⟩ := hcut
            go_wp2
            go_loopw [16] (fun i wr => ∃ k : Nat, k ≤ ks.length ∧ i = .int .i64 k ∧ Below w8.heap.size w8 wr) (fun i _ => ks.length - (intOf i).toNat)
            case atStart => exact ⟨0, by omega, rfl, bdrewN (Below.refl _ _) _⟩
            case round =>
              obtain ⟨k, hk, rfl, hBr⟩ := hrel
              have HOr := Lib.hid (HO8.out.below hBr)
              by_cases hlt : k < ks.length
              · have i1 : (k : Int) < ks.length := by omega
                obtain ⟨b, off, rfl, hbb, cc⟩ := HOr.out.at_ hlt
                obtain ⟨n1, n2⟩ := KIN.out k hlt
                rcases Nat.eq_zero_or_pos k with hk0 | hk0
                · have i0 : ¬ (0 : Int) < (k : Int) := by omega
                  have hd0 : decide (0 < k) = false := by simp; omega
                  clear hk0
                  go_upto_region 18 with fail
                  refine wp_region_held_drew (S := fun w' => w'.cell? ⟨b, off + k, none⟩ = some (.int .i64 (nth ks k)) ∧ b < w'.heap.size ∧ Below w8.heap.size w8 w') (by kernel_rfl) ?_ (fun hHeld => ?_)
                  · exact ⟨cc, hbb, (by first | exact hBr.drew | exact hBr)⟩
                  refine wpAnyH_take (i := 0) (v := ?_) rfl (by kernel_rfl) (by kernel_rfl) (by kernel_rfl) (fun _ _ _ h => h) (Or.inl ⟨by rfl, ?_⟩) (by assumption) ?_
                  rotate_left
                  · (intro w hSw; (try dsimp only at hSw); go_simp; (try with_reducible rfl))
                  (try simp only [Act.put, List.getElem_toArray, List.getElem_cons_zero, List.getElem_cons_succ, List.setIfInBounds_toArray, List.set_cons_zero, List.set_cons_succ])
                  refine wpAnyH_take (i := 1) (v := ?_) rfl (by kernel_rfl) (by kernel_rfl) (by kernel_rfl) (fun _ _ _ h => h) (Or.inl ⟨by rfl, ?_⟩) (by assumption) ?_
                  rotate_left
                  · (intro w hSw; (try dsimp only at hSw); go_simp; (try with_reducible rfl))
                  (try simp only [Act.put, List.getElem_toArray, List.getElem_cons_zero, List.getElem_cons_succ, List.setIfInBounds_toArray, List.set_cons_zero, List.set_cons_succ])
                  refine wpAnyH_take (i := 2) (v := ?_) rfl (by kernel_rfl) (by kernel_rfl) (by kernel_rfl) (fun _ _ _ h => h) (Or.inl ⟨by rfl, ?_⟩) (by assumption) ?_
                  rotate_left
                  · (intro w hSw; (try dsimp only at hSw); go_simp; (try with_reducible rfl))
                  (try simp only [Act.put, List.getElem_toArray, List.getElem_cons_zero, List.getElem_cons_succ, List.setIfInBounds_toArray, List.set_cons_zero, List.set_cons_succ])
                  refine wpAnyH_take (i := 3) (v := ?_) rfl (by kernel_rfl) (by kernel_rfl) (by kernel_rfl) (fun _ _ _ h => h) (Or.inl ⟨by rfl, ?_⟩) (by assumption) ?_
                  rotate_left
                  · (intro w hSw; (try dsimp only at hSw); go_simp; (try with_reducible rfl))
                  (try simp only [Act.put, List.getElem_toArray, List.getElem_cons_zero, List.getElem_cons_succ, List.setIfInBounds_toArray, List.set_cons_zero, List.set_cons_succ])
                  refine wpAnyH_ready (rs := [4]) (by kernel_rfl) (by simp) ?_
                  refine AllReadyH.cons rfl (fun K hK => ?_) AllReadyH.nil
                  go_simp
                  go_at_call 12
                  (with_reducible refine (implWN_c _ n1 n2 _).mono ?_)
                  rintro e wn ⟨⟨ch, tl', rfl⟩, hb⟩
                  (try go_wp2_with fail)
                  refine hK.out _ _ ?_ (fun hHeld => ?_)
                  · obtain ⟨s0, sb, sB⟩ := hHeld
                    exact ⟨(hb.cell (p := ⟨b, off + k, none⟩) sb).trans s0, Nat.lt_of_lt_of_le sb hb.size, sB.trans (hb.mono sB.size)⟩
                  clear hK K
                  (try simp only [Act.put, List.getElem_toArray, List.getElem_cons_zero, List.getElem_cons_succ, List.setIfInBounds_toArray, List.set_cons_zero, List.set_cons_succ])
                  refine wpAnyH_take (i := 5) (v := ?_) rfl (by kernel_rfl) (by kernel_rfl) (by kernel_rfl) (fun _ _ _ h => h) (Or.inl ⟨by rfl, ?_⟩) (by assumption) ?_
                  rotate_left
                  · (intro w hSw; (try dsimp only at hSw); go_simp; (try with_reducible rfl))
                  (try simp only [Act.put, List.getElem_toArray, List.getElem_cons_zero, List.getElem_cons_succ, List.setIfInBounds_toArray, List.set_cons_zero, List.set_cons_succ])
                  refine wpAnyH_take (i := 6) (v := ?_) rfl (by kernel_rfl) (by kernel_rfl) (by kernel_rfl) (fun _ _ _ h => h) (Or.inl ⟨by rfl, ?_⟩) (by assumption) ?_
                  rotate_left
                  · (intro w hSw; (try dsimp only at hSw); go_simp; (try with_reducible rfl))
                  (try simp only [Act.put, List.getElem_toArray, List.getElem_cons_zero, List.getElem_cons_succ, List.setIfInBounds_toArray, List.set_cons_zero, List.set_cons_succ])
                  refine wpAnyH_take (i := 7) (v := ?_) rfl (by kernel_rfl) (by kernel_rfl) (by kernel_rfl) (fun _ _ _ h => h) (Or.inl ⟨by rfl, ?_⟩) (by assumption) ?_
                  rotate_left
                  · (intro w hSw; (try dsimp only at hSw); go_simp; (try with_reducible rfl))
                  (try simp only [Act.put, List.getElem_toArray, List.getElem_cons_zero, List.getElem_cons_succ, List.setIfInBounds_toArray, List.set_cons_zero, List.set_cons_succ])
                  refine wpAnyH_take (i := 8) (v := ?_) rfl (by kernel_rfl) (by kernel_rfl) (by kernel_rfl) (fun _ _ _ h => h) (Or.inl ⟨by rfl, ?_⟩) (by assumption) ?_
                  rotate_left
                  · (intro w hSw; (try dsimp only at hSw); go_simp; (try with_reducible rfl))
                  (try simp only [Act.put, List.getElem_toArray, List.getElem_cons_zero, List.getElem_cons_succ, List.setIfInBounds_toArray, List.set_cons_zero, List.set_cons_succ])
                  (try simp only [hd0])
                  refine wpAnyH_take (i := 9) (v := ?_) rfl (by kernel_rfl) (by kernel_rfl) (by kernel_rfl) (fun _ _ _ h => h) (Or.inl ⟨by rfl, ?_⟩) (by assumption) ?_
                  rotate_left
                  · (intro w hSw; (try dsimp only at hSw); go_simp; (try with_reducible rfl))
                  (try simp only [Act.put, List.getElem_toArray, List.getElem_cons_zero, List.getElem_cons_succ, List.setIfInBounds_toArray, List.set_cons_zero, List.set_cons_succ])
                  refine wpAnyH_take (i := 10) (v := undef) rfl (by kernel_rfl) (by kernel_rfl) (by kernel_rfl) (fun _ _ _ h => h) (Or.inr ⟨by first | kernel_rfl | rfl, rfl⟩) (by assumption) ?_
                  (try simp only [Act.put, List.getElem_toArray, List.getElem_cons_zero, List.getElem_cons_succ, List.setIfInBounds_toArray, List.set_cons_zero, List.set_cons_succ])
                  refine wpAnyH_take (i := 11) (v := undef) rfl (by kernel_rfl) (by kernel_rfl) (by kernel_rfl) (fun _ _ _ h => h) (Or.inr ⟨by first | kernel_rfl | rfl, rfl⟩) (by assumption) ?_
                  (try simp only [Act.put, List.getElem_toArray, List.getElem_cons_zero, List.getElem_cons_succ, List.setIfInBounds_toArray, List.set_cons_zero, List.set_cons_succ])
                  refine wpAnyH_take (i := 12) (v := undef) rfl (by kernel_rfl) (by kernel_rfl) (by kernel_rfl) (fun _ _ _ h => h) (Or.inr ⟨by first | kernel_rfl | rfl, rfl⟩) (by assumption) ?_
                  (try simp only [Act.put, List.getElem_toArray, List.getElem_cons_zero, List.getElem_cons_succ, List.setIfInBounds_toArray, List.set_cons_zero, List.set_cons_succ])
                  refine wpAnyH_take (i := 13) (v := undef) rfl (by kernel_rfl) (by kernel_rfl) (by kernel_rfl) (fun _ _ _ h => h) (Or.inr ⟨by first | kernel_rfl | rfl, rfl⟩) (by assumption) ?_
                  (try simp only [Act.put, List.getElem_toArray, List.getElem_cons_zero, List.getElem_cons_succ, List.setIfInBounds_toArray, List.set_cons_zero, List.set_cons_succ])
                  refine wpAnyH_take (i := 14) (v := undef) rfl (by kernel_rfl) (by kernel_rfl) (by kernel_rfl) (fun _ _ _ h => h) (Or.inr ⟨by first | kernel_rfl | rfl, rfl⟩) (by assumption) ?_
                  (try simp only [Act.put, List.getElem_toArray, List.getElem_cons_zero, List.getElem_cons_succ, List.setIfInBounds_toArray, List.set_cons_zero, List.set_cons_succ])
                  refine wpAnyH_take (i := 15) (v := undef) rfl (by kernel_rfl) (by kernel_rfl) (by kernel_rfl) (fun _ _ _ h => h) (Or.inr ⟨by first | kernel_rfl | rfl, rfl⟩) (by assumption) ?_
                  (try simp only [Act.put, List.getElem_toArray, List.getElem_cons_zero, List.getElem_cons_succ, List.setIfInBounds_toArray, List.set_cons_zero, List.set_cons_succ])
                  refine wpAnyH_take (i := 16) (v := undef) rfl (by kernel_rfl) (by kernel_rfl) (by kernel_rfl) (fun _ _ _ h => h) (Or.inr ⟨by first | kernel_rfl | rfl, rfl⟩) (by assumption) ?_
                  (try simp only [Act.put, List.getElem_toArray, List.getElem_cons_zero, List.getElem_cons_succ, List.setIfInBounds_toArray, List.set_cons_zero, List.set_cons_succ])
                  refine wpAnyH_take (i := 17) (v := undef) rfl (by kernel_rfl) (by kernel_rfl) (by kernel_rfl) (fun _ _ _ h => h) (Or.inr ⟨by first | kernel_rfl | rfl, rfl⟩) (by assumption) ?_
                  (try simp only [Act.put, List.getElem_toArray, List.getElem_cons_zero, List.getElem_cons_succ, List.setIfInBounds_toArray, List.set_cons_zero, List.set_cons_succ])
                  refine wpAnyH_take (i := 18) (v := undef) rfl (by kernel_rfl) (by kernel_rfl) (by kernel_rfl) (fun _ _ _ h => h) (Or.inr ⟨by first | kernel_rfl | rfl, rfl⟩) (by assumption) ?_
                  (try simp only [Act.put, List.getElem_toArray, List.getElem_cons_zero, List.getElem_cons_succ, List.setIfInBounds_toArray, List.set_cons_zero, List.set_cons_succ])
                  refine wpAnyH_take (i := 19) (v := undef) rfl (by kernel_rfl) (by kernel_rfl) (by kernel_rfl) (fun _ _ _ h => h) (Or.inr ⟨by first | kernel_rfl | rfl, rfl⟩) (by assumption) ?_
                  (try simp only [Act.put, List.getElem_toArray, List.getElem_cons_zero, List.getElem_cons_succ, List.setIfInBounds_toArray, List.set_cons_zero, List.set_cons_succ])
                  refine wpAnyH_take (i := 20) (v := ?_) rfl (by kernel_rfl) (by kernel_rfl) (by kernel_rfl) (fun _ _ _ h => h) (Or.inl ⟨by rfl, ?_⟩) (by assumption) ?_
                  rotate_left
                  · (intro w hSw; (try dsimp only at hSw); go_simp; (try with_reducible rfl))
                  (try simp only [Act.put, List.getElem_toArray, List.getElem_cons_zero, List.getElem_cons_succ, List.setIfInBounds_toArray, List.set_cons_zero, List.set_cons_succ])
                  refine wpAnyH_take (i := 21) (v := ?_) rfl (by kernel_rfl) (by kernel_rfl) (by kernel_rfl) (fun _ _ _ h => h) (Or.inl ⟨by rfl, ?_⟩) (by assumption) ?_
                  rotate_left
                  · (intro w hSw; (try dsimp only at hSw); go_simp; (try with_reducible rfl))
                  (try simp only [Act.put, List.getElem_toArray, List.getElem_cons_zero, List.getElem_cons_succ, List.setIfInBounds_toArray, List.set_cons_zero, List.set_cons_succ])
                  refine wpAnyH_done (by kernel_rfl) ?_ _
                  obtain ⟨s0, sb, sB⟩ := hHeld
                  have HBn := Lib.hid sB
                  go_wp2
                  go_roundw
                  case rel => exact ⟨k + 1, by omega, by go_num, HBn.out⟩
                  case measure => simp [intOf]; omega
                · obtain ⟨j, rfl⟩ : ∃ j, k = j + 1 := ⟨k - 1, by omega⟩
                  obtain ⟨b', off', eb, hbb', cj⟩ := HOr.out.at_ (show j < ks.length by omega)
                  obtain ⟨rfl, rfl⟩ : b = b' ∧ off = off' := by simp only [Option.some.injEq, Addr.mk.injEq] at eb; exact ⟨eb.1, eb.2.1⟩
                  have n3 := KUP.out j hlt
                  have n4 : decide (nth ks (j + 1) ≤ nth ks j) = false := by simp; omega
                  have i2 : (j : Int) < ks.length := by omega
                  have i3 : (j : Int) + 1 < ks.length := by omega
                  have i4 : (j : Int) + 1 - 1 = j := by omega
                  have i5 : decide ((0 : Int) < (j : Int) + 1) = true := by first | (simp; done) | (simp; omega)
                  have i6 : (0 : Int) ≤ (j : Int) + 1 := by omega
                  have i7 : (0 : Int) ≤ (j : Int) := by omega
                  have i8 : IntKind.i64.wrap (j : Int) = (j : Int) := IntWalk.i64_in _ (by omega)
                  clear hk0
                  go_upto_region 18 with fail
                  refine wp_region_held_drew (S := fun w' => w'.cell? ⟨b, off + (j + 1), none⟩ = some (.int .i64 (nth ks (j + 1))) ∧ w'.cell? ⟨b, off + j, none⟩ = some (.int .i64 (nth ks j)) ∧ b < w'.heap.size ∧ Below w8.heap.size w8 w') (by kernel_rfl) ?_ (fun hHeld => ?_)
                  · exact ⟨(by rw [World.cell?_drew]; exact cc), (by rw [World.cell?_drew]; exact cj), hbb, (by first | exact hBr.drew | exact hBr)⟩
                  refine wpAnyH_take (i := 0) (v := ?_) rfl (by kernel_rfl) (by kernel_rfl) (by kernel_rfl) (fun _ _ _ h => h) (Or.inl ⟨by rfl, ?_⟩) (by assumption) ?_
                  rotate_left
                  · (intro w hSw; (try dsimp only at hSw); go_simp; (try with_reducible rfl))
                  (try simp only [Act.put, List.getElem_toArray, List.getElem_cons_zero, List.getElem_cons_succ, List.setIfInBounds_toArray, List.set_cons_zero, List.set_cons_succ])
                  refine wpAnyH_take (i := 1) (v := ?_) rfl (by kernel_rfl) (by kernel_rfl) (by kernel_rfl) (fun _ _ _ h => h) (Or.inl ⟨by rfl, ?_⟩) (by assumption) ?_
                  rotate_left
                  · (intro w hSw; (try dsimp only at hSw); go_simp; (try with_reducible rfl))
                  (try simp only [Act.put, List.getElem_toArray, List.getElem_cons_zero, List.getElem_cons_succ, List.setIfInBounds_toArray, List.set_cons_zero, List.set_cons_succ])
                  refine wpAnyH_take (i := 2) (v := ?_) rfl (by kernel_rfl) (by kernel_rfl) (by kernel_rfl) (fun _ _ _ h => h) (Or.inl ⟨by rfl, ?_⟩) (by assumption) ?_
                  rotate_left
                  · (intro w hSw; (try dsimp only at hSw); go_simp; (try with_reducible rfl))
                  (try simp only [Act.put, List.getElem_toArray, List.getElem_cons_zero, List.getElem_cons_succ, List.setIfInBounds_toArray, List.set_cons_zero, List.set_cons_succ])
                  refine wpAnyH_take (i := 3) (v := ?_) rfl (by kernel_rfl) (by kernel_rfl) (by kernel_rfl) (fun _ _ _ h => h) (Or.inl ⟨by rfl, ?_⟩) (by assumption) ?_
                  rotate_left
                  · (intro w hSw; (try dsimp only at hSw); go_simp; (try with_reducible rfl))
                  (try simp only [Act.put, List.getElem_toArray, List.getElem_cons_zero, List.getElem_cons_succ, List.setIfInBounds_toArray, List.set_cons_zero, List.set_cons_succ])
                  refine wpAnyH_ready (rs := [4]) (by kernel_rfl) (by simp) ?_
                  refine AllReadyH.cons rfl (fun K hK => ?_) AllReadyH.nil
                  go_simp
                  go_at_call 12
                  (with_reducible refine (implWN_c _ n1 n2 _).mono ?_)
                  rintro e wn ⟨⟨ch, tl', rfl⟩, hb⟩
                  (try go_wp2_with fail)
                  refine hK.out _ _ ?_ (fun hHeld => ?_)
                  · obtain ⟨s0, s1, sb, sB⟩ := hHeld
                    exact ⟨(hb.cell (p := ⟨b, off + (j + 1), none⟩) sb).trans s0, (hb.cell (p := ⟨b, off + j, none⟩) sb).trans s1, Nat.lt_of_lt_of_le sb hb.size, sB.trans (hb.mono sB.size)⟩
                  clear hK K
                  (try simp only [Act.put, List.getElem_toArray, List.getElem_cons_zero, List.getElem_cons_succ, List.setIfInBounds_toArray, List.set_cons_zero, List.set_cons_succ])
                  refine wpAnyH_take (i := 5) (v := ?_) rfl (by kernel_rfl) (by kernel_rfl) (by kernel_rfl) (fun _ _ _ h => h) (Or.inl ⟨by rfl, ?_⟩) (by assumption) ?_
                  rotate_left
                  · (intro w hSw; (try dsimp only at hSw); go_simp; (try with_reducible rfl))
                  (try simp only [Act.put, List.getElem_toArray, List.getElem_cons_zero, List.getElem_cons_succ, List.setIfInBounds_toArray, List.set_cons_zero, List.set_cons_succ])
                  refine wpAnyH_take (i := 6) (v := ?_) rfl (by kernel_rfl) (by kernel_rfl) (by kernel_rfl) (fun _ _ _ h => h) (Or.inl ⟨by rfl, ?_⟩) (by assumption) ?_
                  rotate_left
                  · (intro w hSw; (try dsimp only at hSw); go_simp; (try with_reducible rfl))
                  (try simp only [Act.put, List.getElem_toArray, List.getElem_cons_zero, List.getElem_cons_succ, List.setIfInBounds_toArray, List.set_cons_zero, List.set_cons_succ])
                  refine wpAnyH_take (i := 7) (v := ?_) rfl (by kernel_rfl) (by kernel_rfl) (by kernel_rfl) (fun _ _ _ h => h) (Or.inl ⟨by rfl, ?_⟩) (by assumption) ?_
                  rotate_left
                  · (intro w hSw; (try dsimp only at hSw); go_simp; (try with_reducible rfl))
                  (try simp only [Act.put, List.getElem_toArray, List.getElem_cons_zero, List.getElem_cons_succ, List.setIfInBounds_toArray, List.set_cons_zero, List.set_cons_succ])
                  refine wpAnyH_take (i := 8) (v := ?_) rfl (by kernel_rfl) (by kernel_rfl) (by kernel_rfl) (fun _ _ _ h => h) (Or.inl ⟨by rfl, ?_⟩) (by assumption) ?_
                  rotate_left
                  · (intro w hSw; (try dsimp only at hSw); go_simp; (try with_reducible rfl))
                  (try simp only [Act.put, List.getElem_toArray, List.getElem_cons_zero, List.getElem_cons_succ, List.setIfInBounds_toArray, List.set_cons_zero, List.set_cons_succ])
                  (try simp only [i5])
                  refine wpAnyH_take (i := 9) (v := ?_) rfl (by kernel_rfl) (by kernel_rfl) (by kernel_rfl) (fun _ _ _ h => h) (Or.inl ⟨by rfl, ?_⟩) (by assumption) ?_
                  rotate_left
                  · (intro w hSw; (try dsimp only at hSw); go_simp; (try with_reducible rfl))
                  (try simp only [Act.put, List.getElem_toArray, List.getElem_cons_zero, List.getElem_cons_succ, List.setIfInBounds_toArray, List.set_cons_zero, List.set_cons_succ])
                  refine wpAnyH_take (i := 10) (v := ?_) rfl (by kernel_rfl) (by kernel_rfl) (by kernel_rfl) (fun _ _ _ h => h) (Or.inl ⟨by rfl, ?_⟩) (by assumption) ?_
                  rotate_left
                  · (intro w hSw; (try dsimp only at hSw); go_simp; (try with_reducible rfl))
                  (try simp only [Act.put, List.getElem_toArray, List.getElem_cons_zero, List.getElem_cons_succ, List.setIfInBounds_toArray, List.set_cons_zero, List.set_cons_succ])
                  refine wpAnyH_take (i := 11) (v := ?_) rfl (by kernel_rfl) (by kernel_rfl) (by kernel_rfl) (fun _ _ _ h => h) (Or.inl ⟨by rfl, ?_⟩) (by assumption) ?_
                  rotate_left
                  · (intro w hSw; (try dsimp only at hSw); go_simp; (try with_reducible rfl))
                  (try simp only [Act.put, List.getElem_toArray, List.getElem_cons_zero, List.getElem_cons_succ, List.setIfInBounds_toArray, List.set_cons_zero, List.set_cons_succ])
                  refine wpAnyH_take (i := 12) (v := ?_) rfl (by kernel_rfl) (by kernel_rfl) (by kernel_rfl) (fun _ _ _ h => h) (Or.inl ⟨by rfl, ?_⟩) (by assumption) ?_
                  rotate_left
                  · (intro w hSw; (try dsimp only at hSw); go_simp; (try with_reducible rfl))
                  (try simp only [Act.put, List.getElem_toArray, List.getElem_cons_zero, List.getElem_cons_succ, List.setIfInBounds_toArray, List.set_cons_zero, List.set_cons_succ])
                  (try simp only [i8])
                  refine wpAnyH_take (i := 13) (v := ?_) rfl (by kernel_rfl) (by kernel_rfl) (by kernel_rfl) (fun _ _ _ h => h) (Or.inl ⟨by rfl, ?_⟩) (by assumption) ?_
                  rotate_left
                  · (intro w hSw; (try dsimp only at hSw); go_simp; (try with_reducible rfl))
                  (try simp only [Act.put, List.getElem_toArray, List.getElem_cons_zero, List.getElem_cons_succ, List.setIfInBounds_toArray, List.set_cons_zero, List.set_cons_succ])
                  refine wpAnyH_take (i := 14) (v := ?_) rfl (by kernel_rfl) (by kernel_rfl) (by kernel_rfl) (fun _ _ _ h => h) (Or.inl ⟨by rfl, ?_⟩) (by assumption) ?_
                  rotate_left
                  · (intro w hSw; (try dsimp only at hSw); go_simp; (try with_reducible rfl))
                  (try simp only [Act.put, List.getElem_toArray, List.getElem_cons_zero, List.getElem_cons_succ, List.setIfInBounds_toArray, List.set_cons_zero, List.set_cons_succ])
                  refine wpAnyH_take (i := 15) (v := ?_) rfl (by kernel_rfl) (by kernel_rfl) (by kernel_rfl) (fun _ _ _ h => h) (Or.inl ⟨by rfl, ?_⟩) (by assumption) ?_
                  rotate_left
                  · (intro w hSw; (try dsimp only at hSw); go_simp; (try with_reducible rfl))
                  (try simp only [Act.put, List.getElem_toArray, List.getElem_cons_zero, List.getElem_cons_succ, List.setIfInBounds_toArray, List.set_cons_zero, List.set_cons_succ])
                  refine wpAnyH_take (i := 16) (v := ?_) rfl (by kernel_rfl) (by kernel_rfl) (by kernel_rfl) (fun _ _ _ h => h) (Or.inl ⟨by rfl, ?_⟩) (by assumption) ?_
                  rotate_left
                  · (intro w hSw; (try dsimp only at hSw); go_simp; (try with_reducible rfl))
                  (try simp only [Act.put, List.getElem_toArray, List.getElem_cons_zero, List.getElem_cons_succ, List.setIfInBounds_toArray, List.set_cons_zero, List.set_cons_succ])
                  refine wpAnyH_take (i := 17) (v := ?_) rfl (by kernel_rfl) (by kernel_rfl) (by kernel_rfl) (fun _ _ _ h => h) (Or.inl ⟨by rfl, ?_⟩) (by assumption) ?_
                  rotate_left
                  · (intro w hSw; (try dsimp only at hSw); go_simp; (try with_reducible rfl))
                  (try simp only [Act.put, List.getElem_toArray, List.getElem_cons_zero, List.getElem_cons_succ, List.setIfInBounds_toArray, List.set_cons_zero, List.set_cons_succ])
                  refine wpAnyH_take (i := 18) (v := ?_) rfl (by kernel_rfl) (by kernel_rfl) (by kernel_rfl) (fun _ _ _ h => h) (Or.inl ⟨by rfl, ?_⟩) (by assumption) ?_
                  rotate_left
                  · (intro w hSw; (try dsimp only at hSw); go_simp; (try with_reducible rfl))
                  (try simp only [Act.put, List.getElem_toArray, List.getElem_cons_zero, List.getElem_cons_succ, List.setIfInBounds_toArray, List.set_cons_zero, List.set_cons_succ])
                  refine wpAnyH_take (i := 19) (v := ?_) rfl (by kernel_rfl) (by kernel_rfl) (by kernel_rfl) (fun _ _ _ h => h) (Or.inl ⟨by rfl, ?_⟩) (by assumption) ?_
                  rotate_left
                  · (intro w hSw; (try dsimp only at hSw); go_simp; (try with_reducible rfl))
                  (try simp only [Act.put, List.getElem_toArray, List.getElem_cons_zero, List.getElem_cons_succ, List.setIfInBounds_toArray, List.set_cons_zero, List.set_cons_succ])
                  (try simp only [n4])
                  refine wpAnyH_take (i := 20) (v := ?_) rfl (by kernel_rfl) (by kernel_rfl) (by kernel_rfl) (fun _ _ _ h => h) (Or.inl ⟨by rfl, ?_⟩) (by assumption) ?_
                  rotate_left
                  · (intro w hSw; (try dsimp only at hSw); go_simp; (try with_reducible rfl))
                  (try simp only [Act.put, List.getElem_toArray, List.getElem_cons_zero, List.getElem_cons_succ, List.setIfInBounds_toArray, List.set_cons_zero, List.set_cons_succ])
                  refine wpAnyH_take (i := 21) (v := ?_) rfl (by kernel_rfl) (by kernel_rfl) (by kernel_rfl) (fun _ _ _ h => h) (Or.inl ⟨by rfl, ?_⟩) (by assumption) ?_
                  rotate_left
                  · (intro w hSw; (try dsimp only at hSw); go_simp; (try with_reducible rfl))
                  (try simp only [Act.put, List.getElem_toArray, List.getElem_cons_zero, List.getElem_cons_succ, List.setIfInBounds_toArray, List.set_cons_zero, List.set_cons_succ])
                  refine wpAnyH_done (by kernel_rfl) ?_ _
                  obtain ⟨s0, s1, sb, sB⟩ := hHeld
                  have HBn := Lib.hid sB
                  go_wp2
                  go_roundw
                  case rel => exact ⟨j + 1 + 1, by omega, by go_num, HBn.out⟩
                  case measure => simp [intOf]; omega
              · obtain rfl : k = ks.length := by omega
                go_wp2
                go_meet
                case rel => exact HB8.out.trans (hBr.mono HB8.out.size)
    · go_wp2
      go_meet
      case rel => exact HB4.out
  case rest =>
    have HBc := Lib.hid hcut
    clear hcut c0 c1 c2
    go_wp2_with (go_at_call 13; (with_reducible refine (DrawLongestGood_c C m c' hm _ (HRC.out.below HBc.out)).mono ?_); rintro e w9 ⟨⟨A2, n2, c2, z2, x2, rfl, hz2, ⟨hn2, hcp2⟩, hR2⟩, hb⟩; have HB9 := Lib.hid (HBc.out.trans (hb.mono HBc.out.size)); have HR9 := Lib.hid hR2; clear hb hR2; obtain ⟨la, lm, lq, hF⟩ : ∃ a m q, fLong z2 n2 x2 = (a, m, q) := ⟨_, _, _, rfl⟩; have HF := Lib.hid hF; clear hF)
    by_cases hlq : lq = 0
    · subst hlq
      obtain ⟨⟨hn48, hhs⟩, ⟨hx0, hx1⟩, ha0, hm1, ham, hgood, hrow⟩ := fLong_ok HF.out
      have HHS := Lib.hid hhs
      have HGD := Lib.hid hgood
      have HRW := Lib.hid hrow
      have a1 : ¬ la < 0 := by omega
      have a2 : ¬ lm < 1 := by omega
      have a3 : ¬ (n2 : Int) < la + lm := by omega
      clear hhs hgood hrow
      go_wp2_with (go_at_call 14; (with_reducible refine (implLG_v HF.out hz2 (by omega) _ HR9.out).mono ?_); rintro e w10 ⟨rfl, hb⟩; have HB10 := Lib.hid (HB9.out.trans (hb.mono HB9.out.size)); have HR10 := Lib.hid (HR9.out.below hb); clear hb)
      go_loopw [22, 23] (fun v i wr => ∃ k : Nat, k ≤ n2 ∧ i = .int .i64 k ∧ Hid (v = .int .i64 (rowAt z2 x2 k)) ∧ Below w10.heap.size w10 wr) (fun _ i _ => n2 - (intOf i).toNat)
      case atStart => exact ⟨0, by omega, rfl, Lib.hid rfl, by first | exact Below.refl _ _ | exact bdrewN (Below.refl _ _) _⟩
      case round =>
        obtain ⟨k, hk, rfl, HV, hBr⟩ := hrel
        have HRr := Lib.hid (HR10.out.below hBr)
        obtain ⟨v0, v1, v2⟩ := HRW.out k hk
        have hv := HV.out
        subst hv
        by_cases hlt : k < n2
        · have i1 : (k : Int) < n2 := by omega
          obtain ⟨b, off, rfl, hbb, d1, d2, d3⟩ := HRr.out.tri hz2 hlt
          have HGk := Lib.hid (show fGrip (tA z2 k) (tB z2 k) (tC z2 k) = (gripAt z2 k, 0) by unfold fGrip; rw [if_pos (HHS.out k hlt)]; rfl)
          obtain ⟨u0, u1, u2⟩ := HRW.out (k + 1) hlt
          have hgd := HGD.out k
          by_cases hlow : gripAt z2 k < x2
          · have HN := Lib.hid (rowAt_low hlow)
            by_cases ha : la ≤ (k : Int)
            · have hnm : ¬ (k : Int) < la + lm := fun h => by have := hgd ha h; omega
              have hd : decide ((k : Int) < la + lm) = false := by simp; omega
              have hm0 : ¬ lm < 0 := by omega
              go_wp2_with (go_at_call 15; (with_reducible refine (specGO_v HGk.out _).mono ?_); rintro e wn ⟨rfl, hb⟩; have HBn := Lib.hid (hBr.trans (hb.mono hBr.size)); clear hb)
              go_roundw
              case rel => exact ⟨k + 1, by omega, by go_num, Lib.hid (by rw [HN.out]), by first | exact HBn.out | exact bdrewN HBn.out _⟩
              case measure => simp [intOf]; omega
            · have hm0 : ¬ lm < 0 := by omega
              have hd : decide (la ≤ (k : Int)) = false := by simp; omega
              go_wp2_with (go_at_call 15; (with_reducible refine (specGO_v HGk.out _).mono ?_); rintro e wn ⟨rfl, hb⟩; have HBn := Lib.hid (hBr.trans (hb.mono hBr.size)); clear hb)
              go_roundw
              case rel => exact ⟨k + 1, by omega, by go_num, Lib.hid (by rw [HN.out]), by first | exact HBn.out | exact bdrewN HBn.out _⟩
              case measure => simp [intOf]; omega
          · have HN := Lib.hid (rowAt_on hlow)
            rw [HN.out] at u0 u1 u2
            have hm2 : ¬ lm < rowAt z2 x2 k + 1 := by omega
            by_cases ha : la ≤ (k : Int)
            · by_cases hnm : (k : Int) < la + lm
              · go_wp2_with (go_at_call 15; (with_reducible refine (specGO_v HGk.out _).mono ?_); rintro e wn ⟨rfl, hb⟩; have HBn := Lib.hid (hBr.trans (hb.mono hBr.size)); clear hb)
                go_roundw
                case rel => exact ⟨k + 1, by omega, by go_num, Lib.hid (by rw [HN.out]), by first | exact HBn.out | exact bdrewN HBn.out _⟩
                case measure => simp [intOf]; omega
              · have hd : decide ((k : Int) < la + lm) = false := by simp; omega
                go_wp2_with (go_at_call 15; (with_reducible refine (specGO_v HGk.out _).mono ?_); rintro e wn ⟨rfl, hb⟩; have HBn := Lib.hid (hBr.trans (hb.mono hBr.size)); clear hb)
                go_roundw
                case rel => exact ⟨k + 1, by omega, by go_num, Lib.hid (by rw [HN.out]), by first | exact HBn.out | exact bdrewN HBn.out _⟩
                case measure => simp [intOf]; omega
            · have hd : decide (la ≤ (k : Int)) = false := by simp; omega
              go_wp2_with (go_at_call 15; (with_reducible refine (specGO_v HGk.out _).mono ?_); rintro e wn ⟨rfl, hb⟩; have HBn := Lib.hid (hBr.trans (hb.mono hBr.size)); clear hb)
              go_roundw
              case rel => exact ⟨k + 1, by omega, by go_num, Lib.hid (by rw [HN.out]), by first | exact HBn.out | exact bdrewN HBn.out _⟩
              case measure => simp [intOf]; omega
        · obtain rfl : k = n2 := by omega
          go_wp2
          go_returns
          exact ⟨by simp, HB10.out.trans (hBr.mono HB10.out.size)⟩
    · obtain ⟨ea, em⟩ := fLong_no HF.out hlq
      subst ea
      subst em
      go_wp2_with (go_at_call 14; (with_reducible refine (implLG_v HF.out hz2 (by omega) _ HR9.out).mono ?_); rintro e w10 ⟨rfl, hb⟩; have HB10 := Lib.hid (HB9.out.trans (hb.mono HB9.out.size)); clear hb)
      go_returns
      exact ⟨by simp, HB10.out⟩
end Go.Proofs.YtapafambhidlhaaDoor
