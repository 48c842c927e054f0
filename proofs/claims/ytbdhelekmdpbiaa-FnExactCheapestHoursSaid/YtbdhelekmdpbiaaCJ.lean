/- insertionSortCmpFunc at hours, by price. -/
import Derived.Test.YtbdhelekmdpbiaaCT
import Derived.Test.YtbdhelekmdpbiaaCI
namespace Go.Proofs.Ytbdhelekmdpbiaa
open Go.ChangeShapes Go.WideShapes Go.ChangeAt Go.RowKit
set_option linter.unusedVariables false
set_option linter.unusedSimpArgs false

/-- The price of an hour. -/
def pr (ps : List Int) (x : Int) : Int := nth ps x.toNat
theorem sw2_list {zs : List Int} {x y : Nat} (hx : x < zs.length) (hy : y < zs.length) (hne : x ≠ y) : Sw2 x y (nth zs) (nth ((zs.set x (nth zs y)).set y (nth zs x))) := by
  have e : ∀ k, nth ((zs.set x (nth zs y)).set y (nth zs x)) k = if y = k then nth zs x else if x = k then nth zs y else nth zs k := fun k => by
    rw [nth_set (by simp; omega), nth_set hx]
  refine ⟨?_, ?_, fun k k1 k2 => ?_⟩
  · rw [e, if_neg (by omega), if_pos rfl]
  · rw [e, if_pos rfl]
  · rw [e, if_neg (by omega), if_neg (by omega)]
theorem cmp2_v {x y : Nat} {B d : Nat} {ps : List Int} {r : Int} (h : cmpV (nth ps x) (nth ps y) = r) (hx : x < ps.length) (hy : y < ps.length) {w : World} (hP : PC w B d ps) (q : Nat) : Calls Try.prog 19 #[.int .i64 x, .int .i64 y, .pointer (some ⟨d, 0, none⟩)] (w.drewN q) fun e w' => e = .returned (.int .i64 r) ∧ ∃ m, w' = (w.drewN q).drewN m := by
  have := cmp2_c x y B d ps hx hy (w.drewN q) (hP.below (bdrewN (Below.refl _ _) q))
  rw [h] at this
  exact this
set_option maxRecDepth 100000 in
set_option maxHeartbeats 4000000 in
theorem insC_c (g n c : Nat) (xs : List Int) (hl : xs.length = n) (a b : Nat) (hab : a ≤ b) (hbn : b ≤ n) (B d : Nat) (ps : List Int) (hps : ps.length = n) (hn : n ≤ 1000) (w : World) (hP : PC w B d ps) (hid : ∀ i, a ≤ i → i < b → nth xs i = i) (h : OwnI 3 w B (.slice (some ⟨g, 0, none⟩) n c) xs) : Calls Try.prog 24 #[.slice (some ⟨g, 0, none⟩) n c, .int .i64 a, .int .i64 b, .func (.func 19) #[] #[.pointer (some ⟨d, 0, none⟩)]] w fun e w' => e = .returned (.tuple #[]) ∧ ∃ ys : List Int, ys.length = n ∧ PI a b (nth xs) (nth ys) ∧ Seg (pr ps) (nth ys) a b ∧ OwnI 3 w' B (.slice (some ⟨g, 0, none⟩) n c) ys ∧ Below B w w' := by
  have HH := Lib.hid h
  have HP := Lib.hid hP
  have HID := Lib.hid hid
  clear h hP hid
  go_enter Try.func24, Try.ntmps24
  go_wp2
  go_loopw [8] (fun v wr => ∃ (i : Nat) (ys : List Int), a + 1 ≤ i ∧ (i ≤ b ∨ i = a + 1) ∧ v = .int .i64 i ∧ ys.length = n ∧ Hid (PI a i (nth xs) (nth ys)) ∧ Hid (Seg (pr ps) (nth ys) a i) ∧ Hid (OwnI 3 wr B (.slice (some ⟨g, 0, none⟩) n c) ys) ∧ Below B w wr) (fun v _ => b + 1 - (intOf v).toNat)
  case atStart => exact ⟨a + 1, xs, by omega, .inr rfl, by go_num, hl, Lib.hid (PI.refl _ _ _), Lib.hid (fun i j h1 h2 h3 => by omega), HH, Below.refl _ _⟩
  case round =>
    obtain ⟨i, ys, hi1, hi2, rfl, hyl, HPI, HSG, HW, hBr⟩ := hrel
    by_cases hlt : i < b
    · have i1 : (i : Int) < b := by omega
      obtain ⟨wo, rfl⟩ : ∃ wo : World, wo = wr := ⟨_, rfl⟩
      have hyi : nth ys i = i := by rw [HPI.out.1 i (by omega)]; exact HID.out i (by omega) hlt
      have hlow : ∀ s, a ≤ s → s < i → 0 ≤ nth ys s ∧ nth ys s < i := fun s h1 h2 => by
        obtain ⟨j, j1, j2, e⟩ := HPI.out.2.1 s h1 h2
        rw [e, HID.out j j1 (by omega)]
        omega
      have HI0 := Lib.hid (ins_start HSG.out hlow hyi)
      have HPI0 := Lib.hid (HPI.out.wide (Nat.le_refl a) (show i ≤ i + 1 by omega))
      clear hyi hlow
      go_wp2
      go_loopw [9] (fun v wr => ∃ (j : Nat) (zs : List Int), a ≤ j ∧ j ≤ i ∧ v = .int .i64 j ∧ zs.length = n ∧ Hid (InsI (pr ps) a i j (nth zs)) ∧ Hid (PI a (i + 1) (nth xs) (nth zs)) ∧ Hid (OwnI 3 wr B (.slice (some ⟨g, 0, none⟩) n c) zs) ∧ Below B w wr) (fun v _ => (intOf v).toNat)
      case atStart => exact ⟨i, ys, by omega, by omega, rfl, hyl, HI0, HPI0, HW, hBr⟩
      case round =>
        obtain ⟨j, zs, haj, hji, rfl, hzl, HI, HQ, HZ, hBz⟩ := hrel
        have HPz := Lib.hid (HP.out.below hBz)
        by_cases hja : j = a
        · have q0 : decide ((a : Int) < (j : Int)) = false := by simp; omega
          have HN := Lib.hid (ins_stop HI.out haj hji (.inl hja))
          go_wp2
          go_quiet ((first
              | (fail)))
          go_wp2
          go_roundw
          case rel => exact ⟨i + 1, zs, by omega, .inl (by omega), by go_num, hzl, HQ, HN, Lib.hid (HZ.out.drewN _), bdrewN hBz _⟩
          case measure => simp [intOf]; omega
        · obtain ⟨j, rfl⟩ : ∃ k, j = k + 1 := ⟨j - 1, by omega⟩
          obtain ⟨_, hcl⟩ := HZ.out.row
          obtain ⟨g', off', e1, hgl, c1⟩ := hcl.at_ (show j + 1 < zs.length by omega)
          obtain ⟨g'', off'', e2, _, c0⟩ := hcl.at_ (show j < zs.length by omega)
          simp only [Option.some.injEq, Addr.mk.injEq, and_true] at e1 e2
          obtain ⟨rfl, rfl⟩ := e1
          obtain ⟨rfl, rfl⟩ := e2
          rw [Nat.zero_add] at c1 c0
          have f1 := HZ.out.free (j + 1)
          have f0 := HZ.out.free j
          have q0 : decide ((a : Int) < (j : Int) + 1) = true := by simp; omega
          have q0' : (a : Int) < (j : Int) + 1 := by omega
          have jn : (j : Int) + 1 < n := by omega
          have jn' : (j : Int) < n := by omega
          have ja : (j : Int) + 1 - 1 = j := by omega
          have hx : nth zs (j + 1) = i := HI.out.2.2.1
          obtain ⟨y0, y1⟩ := HI.out.2.2.2 j (by omega) (by omega) (by omega)
          obtain ⟨y, hy⟩ : ∃ y : Nat, nth zs j = y := ⟨(nth zs j).toNat, by omega⟩
          have HSW := Lib.hid (sw2_list (show j + 1 < zs.length by omega) (show j < zs.length by omega) (by omega))
          rw [hx, hy] at HSW
          rw [hx] at c1
          rw [hy] at c0
          have hyn : y < n := by omega
          have hpe : pr ps (nth zs (j + 1)) = nth ps i ∧ pr ps (nth zs j) = nth ps y := by rw [hx, hy]; exact ⟨by simp [pr], by simp [pr]⟩
          clear y0 y1
          by_cases hd : nth ps i < nth ps y
          · have hcv := Lib.hid (cmpV_lt hd)
            have HN := Lib.hid (ins_step HI.out (by omega) hji (by rw [hpe.1, hpe.2]; exact hd) HSW.out)
            have HQ2 := Lib.hid (HQ.out.trans (HSW.out.pi ⟨by omega, by omega⟩ ⟨by omega, by omega⟩))
            clear hx hy hpe
            go_wp2
            go_quiet ((first
                | (go_at_call 19; exact Calls.quiet_of (cmp2_v hcv.out (by omega) (by omega) HPz.out _))
                | (go_at_call 19; exact quiet_add (cmp2_v hcv.out (by omega) (by omega) HPz.out _))))
            go_wp2
            go_region
            all_goals go_wp2
            have HS := Lib.hid ((HZ.out.drewN (nq + 1)).store (j + 1) y)
            have HS2 := Lib.hid (HS.out.1.store j i)
            go_roundw
            case rel => exact ⟨j, _, by omega, by omega, by go_num, by rw [List.length_set, List.length_set]; exact hzl, HN, HQ2, Lib.hid HS2.out.1, ((bdrewN hBz _).trans HS.out.2).trans HS2.out.2⟩
            case measure => first | (simp [intOf]; done) | (simp [intOf]; omega)
          · have hcv := cmpV_ge hd
            obtain ⟨r, hr⟩ : ∃ r, cmpV (nth ps i) (nth ps y) = r := ⟨_, rfl⟩
            rw [hr] at hcv
            have hrd : decide (r < 0) = false := by simp; omega
            have HR := Lib.hid hr
            have HN := Lib.hid (ins_stop HI.out (by omega) hji (.inr (by rw [Nat.add_sub_cancel, hpe.1, hpe.2]; exact hd)))
            clear hx hy hpe hr
            go_wp2
            go_quiet ((first
                | (go_at_call 19; exact Calls.quiet_of (cmp2_v HR.out (by omega) (by omega) HPz.out _))
                | (go_at_call 19; exact quiet_add (cmp2_v HR.out (by omega) (by omega) HPz.out _))))
            go_wp2
            go_roundw
            case rel => exact ⟨i + 1, zs, by omega, .inl (by omega), by go_num, hzl, HQ, HN, Lib.hid (HZ.out.drewN _), bdrewN hBz _⟩
            case measure => simp [intOf]; omega
    · have e : i = b ∨ (i = a + 1 ∧ b = a) := by omega
      go_wp2
      go_returns
      refine ⟨by simp, ys, hyl, ?_, ?_, HW.out, hBr⟩
      · rcases e with rfl | ⟨rfl, rfl⟩
        · exact HPI.out
        · have hq := HPI.out
          have ha : nth ys b = nth xs b := by
            obtain ⟨j, j1, j2, e⟩ := hq.2.1 b (Nat.le_refl _) (by omega)
            rw [e, show j = b by omega]
          refine ⟨fun k _ => ?_, fun k k1 k2 => by omega, fun k k1 k2 => by omega⟩
          by_cases e : k = b
          · rw [e, ha]
          · exact hq.1 k (by omega)
      · exact HSG.out.sub (Nat.le_refl _) (by omega)
end Go.Proofs.Ytbdhelekmdpbiaa
