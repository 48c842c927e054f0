/- CheapestHours: the reference's side. -/
import Derived.Test.YtbdhelekmdpbiaaCX
namespace Go.Proofs.Ytbdhelekmdpbiaa
open Go.ChangeShapes Go.WideShapes Go.ChangeAt Go.RowKit
set_option linter.unusedVariables false
set_option linter.unusedSimpArgs false

set_option maxRecDepth 100000 in
set_option maxHeartbeats 4000000 in
theorem specCheap_c (A : Option Addr) (n c : Nat) (ps : List Int) (r e : Int) (ys : List Int) (hps : ps.length = n) (hn : n ≤ 1048576) (hys : Srt n ps (hrs n) ys) (w : World) (hR : RowI w A ps) : Calls Try.prog 4 #[.slice A n c, .int .i64 r, .int .i64 e] w fun x w' => ∃ v, x = .returned (.tuple #[v, .int .i64 (fCheap ps r e ys).2.1, .int .i64 (fCheap ps r e ys).2.2]) ∧ OwnI 2 w' w.heap.size v (fCheap ps r e ys).1 ∧ Below w.heap.size w w' := by
  have HYS := Lib.hid hys
  have HPS := Lib.hid hps
  clear hys
  by_cases h60 : n ≤ 60
  case neg =>
    have HF := Lib.hid (fCheap_bad (r := r) (e := e) (ys := ys) (show (decide (ps.length ≤ 60) && !ps.any notPr && inB r 0 1000 && inB e 1 1000) = false by rw [hps, decide_eq_false h60]; rfl))
    have i1 : (60 : Int) < n := by omega
    clear hps
    go_enter Try.func4, Try.ntmps4
    go_wp2_with (first
    | (go_at_call 10; go_call (l10Share_c _ _); rintro x w' ⟨rfl, rfl⟩)
    | (go_at_call 11; go_call (l00In_c _ _ _ _); rintro x w' ⟨rfl, rfl⟩))
    go_returns
    exact ⟨_, by (rw [HF.out]) <;> rfl, by rw [HF.out]; exact OwnI.nil _ _ _, Below.refl _ _⟩
  have i1 : ¬ (60 : Int) < n := by omega
  cases hr : inB r 0 1000
  · have HF := Lib.hid (fCheap_bad (r := r) (e := e) (ys := ys) (show (decide (ps.length ≤ 60) && !ps.any notPr && inB r 0 1000 && inB e 1 1000) = false by rw [hr]; simp))
    clear hps
    go_enter Try.func4, Try.ntmps4
    go_wp2_with (first
    | (go_at_call 10; go_call (l10Share_c _ _); rintro x w' ⟨rfl, rfl⟩)
    | (go_at_call 11; go_call (l00In_c _ _ _ _); rintro x w' ⟨rfl, rfl⟩))
    go_returns
    exact ⟨_, by (rw [HF.out]) <;> rfl, by rw [HF.out]; exact OwnI.nil _ _ _, Below.refl _ _⟩
  cases he : inB e 1 1000
  · have HF := Lib.hid (fCheap_bad (r := r) (e := e) (ys := ys) (show (decide (ps.length ≤ 60) && !ps.any notPr && inB r 0 1000 && inB e 1 1000) = false by rw [he]; simp))
    clear hps
    go_enter Try.func4, Try.ntmps4
    go_wp2_with (first
    | (go_at_call 10; go_call (l10Share_c _ _); rintro x w' ⟨rfl, rfl⟩)
    | (go_at_call 11; go_call (l00In_c _ _ _ _); rintro x w' ⟨rfl, rfl⟩))
    go_returns
    exact ⟨_, by (rw [HF.out]) <;> rfl, by rw [HF.out]; exact OwnI.nil _ _ _, Below.refl _ _⟩
  obtain ⟨r0, r1⟩ := inB_true hr
  obtain ⟨e0, e1⟩ := inB_true he
  have HRE := Lib.hid (And.intro hr he)
  obtain ⟨q, hq, q0, q1⟩ : ∃ q, e * (n : Int) = q ∧ 0 ≤ q ∧ q ≤ 60000 := by
    have := mul_bdC (show 0 ≤ e by omega) e1 (show (0 : Int) ≤ n by omega) (show (n : Int) ≤ 60 by omega)
    exact ⟨_, rfl, this.1, this.2⟩
  have HQ := Lib.hid hq
  clear hps
  go_enter Try.func4, Try.ntmps4
  go_wp2_with (first
    | (go_at_call 10; go_call (l10Share_c _ _); rintro x w' ⟨rfl, rfl⟩)
    | (go_at_call 11; go_call (l00In_c _ _ _ _); rintro x w' ⟨rfl, rfl⟩))
  go_loopw [9] (fun v wr => ∃ k : Nat, k ≤ n ∧ v = .int .i64 k ∧ Hid (∀ j, j < k → notPr (nth ps j) = false) ∧ w = wr) (fun v _ => n - (intOf v).toNat)
  case atStart => exact ⟨0, by omega, by go_num, Lib.hid (fun j hj => by omega), rfl⟩
  case round =>
    obtain ⟨k, hk, rfl, HK, rfl⟩ := hrel
    by_cases hlt : k < n
    · have i2 : (k : Int) < n := by omega
      obtain ⟨b, off, rfl, hb, c1⟩ := hR.at_ (show k < ps.length by rw [HPS.out]; exact hlt)
      cases hp : inB (nth ps k) 0 10000
      · have HF := Lib.hid (fCheap_bad (r := r) (e := e) (ys := ys) (show (decide (ps.length ≤ 60) && !ps.any notPr && inB r 0 1000 && inB e 1 1000) = false by rw [any_of (show k < ps.length by rw [HPS.out]; exact hlt) (show notPr (nth ps k) = true by simp [notPr, hp])]; simp))
        go_wp2_with (first
    | (go_at_call 10; go_call (l10Share_c _ _); rintro x w' ⟨rfl, rfl⟩)
    | (go_at_call 11; go_call (l00In_c _ _ _ _); rintro x w' ⟨rfl, rfl⟩))
        go_returns
        exact ⟨_, by (rw [HF.out]) <;> rfl, by rw [HF.out]; exact OwnI.nil _ _ _, Below.refl _ _⟩
      · have HN := Lib.hid (show ∀ j, j < k + 1 → notPr (nth ps j) = false from fun j hj => by
          rcases Nat.lt_or_ge j k with h1 | h1
          · exact HK.out j h1
          · obtain rfl : j = k := by omega
            simp [notPr, hp])
        go_wp2_with (first
    | (go_at_call 10; go_call (l10Share_c _ _); rintro x w' ⟨rfl, rfl⟩)
    | (go_at_call 11; go_call (l00In_c _ _ _ _); rintro x w' ⟨rfl, rfl⟩))
        go_roundw
        case rel => exact ⟨k + 1, by omega, by go_num, HN, by first | rfl | trivial⟩
        case measure => simp [intOf]; omega
    · obtain rfl : k = n := by omega
      have hany : ps.any notPr = false := any_none (by rw [HPS.out]; exact HK.out)
      have hok : (decide (ps.length ≤ 60) && !ps.any notPr && inB r 0 1000 && inB e 1 1000) = true := by rw [HPS.out, hany, HRE.out.1, HRE.out.2, decide_eq_true h60]; rfl
      have HV := Lib.hid (prices_of hany)
      clear hlt hk
      by_cases hf : q < r
      · have HF := Lib.hid (fCheap_full (ys := ys) hok (by rw [HPS.out, HQ.out]; exact hf))
        clear hok hany HK
        go_wp2
        go_returns
        exact ⟨_, by (rw [HF.out]) <;> rfl, by rw [HF.out]; exact OwnI.nil _ _ _, Below.refl _ _⟩
      · have hF := fCheap_good (ys := ys) hok (by rw [HPS.out, HQ.out]; exact hf)
        rw [HPS.out] at hF
        have HF := Lib.hid hF
        have HE := Lib.hid (lft_end (r := r) (e := e) (n := k) r0 e0 (by rw [HQ.out]; omega))
        have hmk := make64 k hn
        clear hok hany HK hF
        go_wp2
        clear hmk
        have HM := Lib.hid (OwnI.made w k w.heap.size (Nat.le_refl _) hn)
        go_loopw [1, 11] (fun a u wr => ∃ t : Nat, t ≤ k ∧ a = .int .i64 (lft r e t) ∧ u = .int .i64 (sums r e ps ys t) ∧ Hid (OwnI 2 wr w.heap.size (.slice (some ⟨w.heap.size, 0, none⟩) k k) (outs r e ys k t)) ∧ Below w.heap.size w wr) (fun a _ _ => (intOf a).toNat)
        case atStart => exact ⟨0, Nat.zero_le _, rfl, by go_num, HM, (Below.refl _ _).alloc (Nat.le_refl _) _⟩
        case round =>
          obtain ⟨t, ht, rfl, rfl, HO, hBr⟩ := hrel
          obtain ⟨wo, rfl⟩ : ∃ wo : World, wo = wr := ⟨_, rfl⟩
          obtain ⟨L0, L1⟩ := lft_bd r0 e0 t
          by_cases h0 : 0 < lft r e t
          · have htk : t < k := by
              rcases Nat.lt_or_ge t k with h | h
              · exact h
              · obtain rfl : t = k := by omega
                have := HE.out
                omega
            obtain ⟨_, hcl0⟩ := HO.out.row
            have hcl := Lib.hid hcl0
            clear hcl0
            go_wp2
            go_loopw [12, 13] (fun a u wr => ∃ (i p : Nat) (v : Int), i ≤ k ∧ a = .int .i64 v ∧ u = .int .i64 i ∧ Hid (BestI ps (outs r e ys k t) i v) ∧ wr = wo.drewN p) (fun _ u _ => k - (intOf u).toNat)
            case atStart => exact ⟨0, 0, -1, by omega, by go_num, by go_num, Lib.hid (.inl ⟨rfl, fun j hj => by omega⟩), rfl⟩
            case round =>
              obtain ⟨i, p, v, hi, rfl, rfl, HB, rfl⟩ := hrel
              by_cases hlt : i < k
              · have i3 : (i : Int) < k := by omega
                obtain ⟨b3, o3, e3, hb3, c3⟩ := hcl.out.at_ (show i < (outs r e ys k t).length by rw [outs_len]; exact hlt)
                simp only [Option.some.injEq, Addr.mk.injEq, and_true] at e3
                obtain ⟨rfl, rfl⟩ := e3
                rw [Nat.zero_add] at c3
                have HRo := hR.below hBr
                obtain ⟨b2, o2, rfl, hb2, c2⟩ := HRo.at_ (show i < ps.length by rw [HPS.out]; exact hlt)
                by_cases hz : nth (outs r e ys k t) i = 0
                · rw [hz] at c3
                  rcases best_or HB.out with rfl | ⟨b, rfl, hbi⟩
                  · have HN := Lib.hid (best_first HB.out hz)
                    clear hz
                    go_wp2
                    go_quiet ((first
                        | (fail)))
                    go_wp2
                    go_roundw
                    case rel => exact ⟨i + 1, _, i, by omega, by go_num, by go_num, HN, by first | rfl | exact World.drewN_drewN _ _ _⟩
                    case measure => simp [intOf]; omega
                  · obtain ⟨b2', o2', e2, hb2', c4⟩ := HRo.at_ (show b < ps.length by rw [HPS.out]; omega)
                    simp only [Option.some.injEq, Addr.mk.injEq, and_true] at e2
                    obtain ⟨rfl, rfl⟩ := e2
                    have i4 : (b : Int) < k := by omega
                    have i5 : ¬ (b : Int) < 0 := by omega
                    by_cases hp : nth ps i < nth ps b
                    · have HN := Lib.hid (best_new HB.out hz hp)
                      clear hz
                      go_wp2
                      go_quiet ((first
                          | (fail)))
                      go_wp2
                      go_roundw
                      case rel => exact ⟨i + 1, _, i, by omega, by go_num, by go_num, HN, by first | rfl | exact World.drewN_drewN _ _ _⟩
                      case measure => simp [intOf]; omega
                    · have HN := Lib.hid (best_keep HB.out hp)
                      clear hz
                      go_wp2
                      go_quiet ((first
                          | (fail)))
                      go_wp2
                      go_roundw
                      case rel => exact ⟨i + 1, _, b, by omega, by go_num, by go_num, HN, by first | rfl | exact World.drewN_drewN _ _ _⟩
                      case measure => simp [intOf]; omega
                · have HN := Lib.hid (best_skip HB.out hz)
                  have hz' : (nth (outs r e ys k t) i == 0) = false := by simpa using hz
                  clear hz
                  go_wp2
                  go_quiet ((first
                      | (fail)))
                  go_wp2
                  go_roundw
                  case rel => exact ⟨i + 1, _, v, by omega, by go_num, by go_num, HN, by first | rfl | exact World.drewN_drewN _ _ _⟩
                  case measure => simp [intOf]; omega
              · obtain rfl : i = k := by omega
                have hv := best_is HYS.out (hrsI i) r0 e0 htk h0 HB.out
                obtain ⟨y0, y1⟩ := HYS.out.bd (hrsI i) htk
                obtain ⟨y, hy⟩ : ∃ y : Nat, nth ys t = y := ⟨(nth ys t).toNat, by omega⟩
                rw [hy] at hv
                subst hv
                have yk : y < i := by omega
                have yk' : (y : Int) < i := by omega
                clear y0 y1 HB
                obtain ⟨p0, p1⟩ := HV.out y (by rw [HPS.out]; exact yk)
                have hgs : w.heap.size ≤ w.heap.size := Nat.le_refl _
                obtain ⟨b2, o2, rfl, hb2, c2'⟩ := hR.at_ (show y < ps.length by rw [HPS.out]; exact yk)
                have c2 := (hBr.cell (p := ⟨b2, o2 + y, none⟩) hb2).trans c2'
                have n2 : ¬ b2 = w.heap.size := by omega
                have n2' : ¬ w.heap.size = b2 := by omega
                obtain ⟨b3, o3, e3, hb3, c3⟩ := hcl.out.at_ (show y < (outs r e ys i t).length by rw [outs_len]; exact yk)
                simp only [Option.some.injEq, Addr.mk.injEq, and_true] at e3
                obtain ⟨rfl, rfl⟩ := e3
                rw [Nat.zero_add] at c3
                have f3 := HO.out.free y
                obtain ⟨S0, S1⟩ := sums_bd HYS.out (hrsI i) r0 e0 e1 (fun j hj => HV.out j (by rw [HPS.out]; exact hj)) t ht
                have S2 : (t : Int) * 10000000 ≤ 600000000 := by omega
                have HL := Lib.hid (show lft r e (t + 1) = lft r e t - min (lft r e t) e by rw [lft])
                have HU := Lib.hid (show sums r e ps ys (t + 1) = sums r e ps ys t + min (lft r e t) e * nth ps y by rw [sums, hy, Int.toNat_natCast])
                have HT := Lib.hid (show outs r e ys i (t + 1) = (outs r e ys i t).set y (min (lft r e t) e) by rw [outs, hy, Int.toNat_natCast])
                have m0 : 1 ≤ min (lft r e t) e := by omega
                have m1 : min (lft r e t) e ≤ 1000 := by omega
                have m2 : min (lft r e t) e ≤ lft r e t := by omega
                have hmul := mul_bdC (show 0 ≤ min (lft r e t) e by omega) m1 p0 p1
                have HMN := Lib.hid (fun W : World => l00Min_c (lft r e t) e W)
                generalize min (lft r e t) e = m at *
                have HS1 := Lib.hid ((HO.out.drewN p).store y m)
                clear hy c2'
                go_wp2_with (go_at_call 12; (refine (HMN.out _).mono ?_); rintro x w' ⟨rfl, rfl⟩)
                go_region
                all_goals go_wp2
                go_roundw
                case rel => exact ⟨t + 1, by omega, by rw [HL.out], by rw [HU.out], Lib.hid (by rw [HT.out]; first | exact HS1.out.1 | exact HS1.out.1.drewN 1), by first | exact (hBr.trans ((bdrewN (Below.refl _ _) p).trans HS1.out.2)).drew | exact bdrewN (hBr.trans ((bdrewN (Below.refl _ _) p).trans HS1.out.2)) 1⟩
                case measure => simp [intOf]; omega
          · obtain ⟨q1, q2⟩ := outs_stop HYS.out (hrsI k) r0 e0 ht (by omega)
            have Q1 := Lib.hid q1
            have Q2 := Lib.hid q2
            clear q1 q2
            go_wp2
            go_returns
            exact ⟨_, by (rw [HF.out, ← Q2.out]) <;> rfl, by rw [HF.out, ← Q1.out]; exact HO.out, hBr⟩
end Go.Proofs.Ytbdhelekmdpbiaa
