/- symMergeCmpFunc where its left run is one thing: the walk. Conditions: the segment lies in the list, both runs are in order. -/
import Derived.Test.YtbdhelekmdpbiaaCJ
import Derived.Test.YtbdhelekmdpbiaaCK
import Derived.Deep.CutRange
namespace Go.Proofs.Ytbdhelekmdpbiaa
open Go.ChangeShapes Go.WideShapes Go.ChangeAt Go.RowKit
set_option linter.unusedVariables false
set_option linter.unusedSimpArgs false

set_option maxRecDepth 100000 in
set_option maxHeartbeats 4000000 in
theorem sym1_c (g n c : Nat) (xs : List Int) (hl : xs.length = n) (a b : Nat) (hab : a + 1 < b) (hbn : b ≤ n) (B d : Nat) (ps : List Int) (hps : ps.length = n) (hn : n ≤ 1000) (w : World) (hP : PC w B d ps) (hv : ∀ i, i < n → 0 ≤ nth xs i ∧ nth xs i < n) (hs : Seg (pr ps) (nth xs) (a + 1) b) (hb : Bef (nth xs) a (a + 1) b) (h : OwnI 3 w B (.slice (some ⟨g, 0, none⟩) n c) xs) : Calls Try.prog 25 #[.slice (some ⟨g, 0, none⟩) n c, .int .i64 a, .int .i64 (a + 1 : Nat), .int .i64 b, .func (.func 19) #[] #[.pointer (some ⟨d, 0, none⟩)]] w fun e w' => e = .returned (.tuple #[]) ∧ ∃ ys : List Int, ys.length = n ∧ PI a b (nth xs) (nth ys) ∧ Seg (pr ps) (nth ys) a b ∧ OwnI 3 w' B (.slice (some ⟨g, 0, none⟩) n c) ys ∧ Below B w w' := by
  have HH := Lib.hid h
  have HP := Lib.hid hP
  have HV := Lib.hid hv
  have HS := Lib.hid hs
  have HB := Lib.hid hb
  clear h hP hv hs hb
  have e1 : ((a + 1 : Nat) : Int) - (a : Int) = 1 := by omega
  go_enter Try.func25, Try.ntmps25
  go_wp2
  go_loopw [10, 11] (fun u v wr => ∃ (i j q : Nat), a + 1 ≤ i ∧ i ≤ j ∧ j ≤ b ∧ u = .int .i64 i ∧ v = .int .i64 j ∧ Hid (∀ t, a < t → t < i → lx (pr ps) (nth xs t) (nth xs a)) ∧ Hid (∀ t, j ≤ t → t < b → lx (pr ps) (nth xs a) (nth xs t)) ∧ wr = w.drewN q) (fun u v _ => (intOf v).toNat - (intOf u).toNat)
  case atStart => exact ⟨a + 1, b, 0, by omega, by omega, by omega, by first | rfl | (congr 1; omega), rfl, Lib.hid (fun t h1 h2 => by omega), Lib.hid (fun t h1 h2 => by omega), rfl⟩
  case round =>
    obtain ⟨i, j, q, h1, h2, h3, rfl, rfl, HL, HR, rfl⟩ := hrel
    by_cases hlt : i < j
    · have i1 : (i : Int) < j := by omega
      go_upto_region 5 with fail
      obtain ⟨x, hx, x1, x2⟩ : ∃ x : Nat, ((i : Int) + (j : Int)) / 2 = x ∧ i ≤ x ∧ x < j := ⟨(i + j) / 2, by omega, by omega, by omega⟩
      simp only [hx]
      obtain ⟨_, hcl⟩ := HH.out.row
      obtain ⟨g', off', e2, hgl, cx⟩ := hcl.at_ (show x < xs.length by omega)
      obtain ⟨g'', off'', e3, _, ca⟩ := hcl.at_ (show a < xs.length by omega)
      simp only [Option.some.injEq, Addr.mk.injEq, and_true] at e2 e3
      obtain ⟨rfl, rfl⟩ := e2
      obtain ⟨rfl, rfl⟩ := e3
      rw [Nat.zero_add] at cx ca
      have xn : (x : Int) < n := by omega
      have an : (a : Int) < n := by omega
      obtain ⟨y0, y1⟩ := HV.out x (by omega)
      obtain ⟨z0, z1⟩ := HV.out a (by omega)
      have hlt2 := HB.out a x (Nat.le_refl _) (by omega) (by omega) (by omega)
      obtain ⟨y, hy⟩ : ∃ y : Nat, nth xs x = y := ⟨(nth xs x).toNat, by omega⟩
      obtain ⟨z, hz⟩ : ∃ z : Nat, nth xs a = z := ⟨(nth xs a).toNat, by omega⟩
      have hpy : pr ps (nth xs x) = nth ps y := by rw [hy]; simp [pr]
      have hpz : pr ps (nth xs a) = nth ps z := by rw [hz]; simp [pr]
      have hyn : y < n := by omega
      have hzn : z < n := by omega
      rw [hy] at cx
      rw [hz] at ca
      by_cases hd : nth ps y < nth ps z
      · have hcv := Lib.hid (cmpV_lt hd)
        have HL2 := Lib.hid (show ∀ t, a < t → t < x + 1 → lx (pr ps) (nth xs t) (nth xs a) from fun t k1 k2 => by
          have q : lx (pr ps) (nth xs x) (nth xs a) := .inl (by rw [hpy, hpz]; exact hd)
          by_cases e : t = x
          · rw [e]; exact q
          · exact lx_trans (HS.out t x (by omega) (by omega) (by omega)) q)
        clear hy hz hpy hpz y0 y1 z0 z1 hlt2
        go_quiet ((first
            | (go_at_call 19; exact Calls.quiet_of (cmp2_v hcv.out (by omega) (by omega) HP.out _))
            | (go_at_call 19; exact quiet_add (cmp2_v hcv.out (by omega) (by omega) HP.out _))))
        go_wp2
        go_roundw
        case rel => exact ⟨x + 1, j, _, by omega, by omega, h3, by go_num, rfl, HL2, HR, (by first | rfl | exact World.drewN_drewN _ _ _)⟩
        case measure => simp [intOf]; omega
      · have hcv := cmpV_ge hd
        obtain ⟨r, hr⟩ : ∃ r, cmpV (nth ps y) (nth ps z) = r := ⟨_, rfl⟩
        rw [hr] at hcv
        have hrd : decide (r < 0) = false := by simp; omega
        have HR1 := Lib.hid hr
        have HR2 := Lib.hid (show ∀ t, x ≤ t → t < b → lx (pr ps) (nth xs a) (nth xs t) from fun t k1 k2 => by
          have q : lx (pr ps) (nth xs a) (nth xs x) := by
            unfold lx
            rw [hpy, hpz]
            omega
          by_cases e : t = x
          · rw [e]; exact q
          · exact lx_trans q (HS.out x t (by omega) (by omega) k2))
        clear hy hz hpy hpz y0 y1 z0 z1 hlt2 hr
        go_quiet ((first
            | (go_at_call 19; exact Calls.quiet_of (cmp2_v HR1.out (by omega) (by omega) HP.out _))
            | (go_at_call 19; exact quiet_add (cmp2_v HR1.out (by omega) (by omega) HP.out _))))
        go_wp2
        go_roundw
        case rel => exact ⟨i, x, _, h1, by omega, by omega, rfl, by go_num, HL, HR2, (by first | rfl | exact World.drewN_drewN _ _ _)⟩
        case measure => simp [intOf]; omega
    · obtain rfl : i = j := by omega
      have e5 : ¬ (i : Int) < i := by omega
      obtain ⟨k0, hk0⟩ : ∃ k0 : Nat, i = k0 + 1 := ⟨i - 1, by omega⟩
      have e6 : (i : Int) - 1 = (k0 : Int) := by omega
      go_wp2
      go_loopw [13] (fun u wr => ∃ (k : Nat) (ys : List Int), a ≤ k ∧ k ≤ k0 ∧ u = .int .i64 k ∧ ys.length = n ∧ Hid (ShR a k (nth xs) (nth ys)) ∧ Hid (OwnI 3 wr B (.slice (some ⟨g, 0, none⟩) n c) ys) ∧ Below B w wr) (fun u _ => k0 - (intOf u).toNat)
      case atStart => exact ⟨a, xs, Nat.le_refl _, by omega, rfl, hl, Lib.hid (ShR.refl _ _), Lib.hid (HH.out.drewN _), bdrewN (Below.refl _ _) _⟩
      case round =>
        obtain ⟨k, ys, hk1, hk2, rfl, hyl, HSH, HW, hBr⟩ := hrel
        by_cases hkk : k < k0
        · have i1 : (k : Int) < k0 := by omega
          obtain ⟨_, hcl⟩ := HW.out.row
          obtain ⟨g', off', e2, hgl, c1⟩ := hcl.at_ (show k + 1 < ys.length by omega)
          obtain ⟨g'', off'', e3, _, c0⟩ := hcl.at_ (show k < ys.length by omega)
          simp only [Option.some.injEq, Addr.mk.injEq, and_true] at e2 e3
          obtain ⟨rfl, rfl⟩ := e2
          obtain ⟨rfl, rfl⟩ := e3
          rw [Nat.zero_add] at c1 c0
          have f1 := HW.out.free (k + 1)
          have f0 := HW.out.free k
          have kn : (k : Int) + 1 < n := by omega
          have kn' : (k : Int) < n := by omega
          have HN := Lib.hid (HSH.out.step hk1 (sw2_list (show k < ys.length by omega) (show k + 1 < ys.length by omega) (by omega)))
          generalize hvb : nth ys (k + 1) = vb at *
          generalize hva : nth ys k = va at *
          have HS1 := Lib.hid (HW.out.store k vb)
          have HS2 := Lib.hid (HS1.out.1.store (k + 1) va)
          go_wp2
          go_region
          all_goals go_wp2
          go_roundw
          case rel => exact ⟨k + 1, _, by omega, by omega, by go_num, by rw [List.length_set, List.length_set]; exact hyl, HN, Lib.hid (by first | exact HS2.out.1 | exact HS2.out.1.drewN 1), by first | exact ((hBr.trans HS1.out.2).trans HS2.out.2).drew | exact bdrewN ((hBr.trans HS1.out.2).trans HS2.out.2) 1⟩
          case measure => simp [intOf]; omega
        · obtain rfl : k = k0 := by omega
          go_wp2
          go_returns
          exact ⟨by simp, ys, hyl, HSH.out.pi hk1 (by omega), HSH.out.seg hk1 (by omega) HS.out (fun t h4 h5 => HL.out t h4 (by omega)) (fun t h4 h5 => HR.out t (by omega) h5), HW.out, hBr⟩
end Go.Proofs.Ytbdhelekmdpbiaa
