/- stableCmpFunc, SortStableFunc at hours by price. -/
import Derived.Test.YtbdhelekmdpbiaaCU
namespace Go.Proofs.Ytbdhelekmdpbiaa
open Go.ChangeShapes Go.WideShapes Go.ChangeAt Go.RowKit
set_option linter.unusedVariables false
set_option linter.unusedSimpArgs false

/-- Within blocks of K, from place a on to n, all is in order. -/
def Bl (K a n : Nat) (p : Int → Int) (f : Nat → Int) : Prop := ∀ i j, a ≤ i → i < j → j < n → i / K = j / K → lx p (f i) (f j)
/-- Things stay in their block of K. -/
def Inb (K a n : Nat) (f : Nat → Int) : Prop := ∀ i, a ≤ i → i < n → 0 ≤ f i ∧ (f i).toNat / K = i / K
/-- From place a on nothing has been moved. -/
def Idn (a n : Nat) (f : Nat → Int) : Prop := ∀ i, a ≤ i → i < n → f i = i
theorem Idn.on {a b n : Nat} {f : Nat → Int} (h : Idn a n f) (hb : b ≤ n) : ∀ i, a ≤ i → i < b → f i = i := fun i k1 k2 => h i k1 (by omega)
theorem ins_next {p : Int → Int} {a b n : Nat} {f g : Nat → Int} (ha : a % 20 = 0) (hab : a ≤ b) (hb : b ≤ a + 20) (hn : b ≤ n) (h1 : Bl 20 0 a p f) (h2 : Inb 20 0 a f) (h3 : Idn a n f) (hp : PI a b f g) (hs : Seg p g a b) : Bl 20 0 b p g ∧ Inb 20 0 b g ∧ Idn b n g := by
  refine ⟨fun i j k1 k2 k3 k4 => ?_, fun i k1 k2 => ?_, fun i k1 k2 => ?_⟩
  · by_cases q : a ≤ i
    · exact hs i j q k2 k3
    · rw [hp.1 i (by omega), hp.1 j (by omega)]
      exact h1 i j k1 k2 (by omega) k4
  · by_cases q : a ≤ i
    · obtain ⟨j, j1, j2, e⟩ := hp.2.1 i q k2
      rw [e, h3 j j1 (by omega)]
      omega
    · rw [hp.1 i (by omega)]
      exact h2 i k1 (by omega)
  · rw [hp.1 i (by omega)]
    exact h3 i (by omega) k2
theorem bl_merge {p : Int → Int} {K a b n : Nat} {f : Nat → Int} (hK : K = 20 ∨ K = 40) (ha : a % (2 * K) = 0) (hb : a + K < b) (hb2 : b ≤ a + 2 * K) (hn : b ≤ n) (h1 : Bl K a n p f) (h2 : Inb K a n f) : Seg p f a (a + K) ∧ Seg p f (a + K) b ∧ Bef f a (a + K) b := by
  rcases hK with rfl | rfl
  · refine ⟨fun i j k1 k2 k3 => h1 i j k1 k2 (by omega) (by omega), fun i j k1 k2 k3 => h1 i j (by omega) k2 (by omega) (by omega), fun i j k1 k2 k3 k4 => ?_⟩
    have := h2 i k1 (by omega)
    have := h2 j (by omega) (by omega)
    omega
  · refine ⟨fun i j k1 k2 k3 => h1 i j k1 k2 (by omega) (by omega), fun i j k1 k2 k3 => h1 i j (by omega) k2 (by omega) (by omega), fun i j k1 k2 k3 k4 => ?_⟩
    have := h2 i k1 (by omega)
    have := h2 j (by omega) (by omega)
    omega
theorem bl_next {p : Int → Int} {K a b n : Nat} {f g : Nat → Int} (hK : K = 20 ∨ K = 40) (ha : a % (2 * K) = 0) (hab : a ≤ b) (hb2 : b ≤ a + 2 * K) (hn : b ≤ n) (h0 : Bl (2 * K) 0 a p f) (i0 : Inb (2 * K) 0 a f) (h1 : Bl K a n p f) (h2 : Inb K a n f) (hp : PI a b f g) (hs : Seg p g a b) : Bl (2 * K) 0 b p g ∧ Inb (2 * K) 0 b g ∧ Bl K b n p g ∧ Inb K b n g := by
  have q : ∀ i, b ≤ i → g i = f i := fun i hi => hp.1 i (.inr hi)
  have q0 : ∀ i, i < a → g i = f i := fun i hi => hp.1 i (.inl hi)
  refine ⟨fun i j k1 k2 k3 k4 => ?_, fun i k1 k2 => ?_, fun i j k1 k2 k3 k4 => ?_, fun i k1 k2 => ?_⟩
  · by_cases qa : a ≤ i
    · exact hs i j qa k2 k3
    · have hj : j < a := by rcases hK with rfl | rfl <;> omega
      rw [q0 i (by omega), q0 j hj]
      exact h0 i j k1 k2 hj k4
  · by_cases qa : a ≤ i
    · obtain ⟨j, j1, j2, e⟩ := hp.2.1 i qa k2
      rw [e]
      obtain ⟨u1, u2⟩ := h2 j j1 (by omega)
      refine ⟨u1, ?_⟩
      rcases hK with rfl | rfl <;> omega
    · rw [q0 i (by omega)]
      exact i0 i k1 (by omega)
  · rw [q i k1, q j (by omega)]
    exact h1 i j (by omega) k2 k3 k4
  · rw [q i k1]
    exact h2 i (by omega) k2
theorem bl_end {p : Int → Int} {K a n : Nat} {f : Nat → Int} (hK : K = 20 ∨ K = 40) (ha : a % (2 * K) = 0) (han : a ≤ n) (hb2 : n ≤ a + K) (h0 : Bl (2 * K) 0 a p f) (i0 : Inb (2 * K) 0 a f) (h1 : Bl K a n p f) (h2 : Inb K a n f) : Bl (2 * K) 0 n p f ∧ Inb (2 * K) 0 n f := by
  refine ⟨fun i j k1 k2 k3 k4 => ?_, fun i k1 k2 => ?_⟩
  · by_cases qa : a ≤ i
    · exact h1 i j qa k2 k3 (by rcases hK with rfl | rfl <;> omega)
    · exact h0 i j k1 k2 (by rcases hK with rfl | rfl <;> omega) k4
  · by_cases qa : a ≤ i
    · obtain ⟨u1, u2⟩ := h2 i qa k2
      exact ⟨u1, by rcases hK with rfl | rfl <;> omega⟩
    · exact i0 i k1 (by omega)
theorem bl_z1 {p : Int → Int} {K : Nat} {f : Nat → Int} : Bl K 0 0 p f := fun i j k1 k2 k3 k4 => by omega
theorem bl_z2 {K : Nat} {f : Nat → Int} : Inb K 0 0 f := fun i k1 k2 => by omega
theorem bl_seg {p : Int → Int} {K n : Nat} {f : Nat → Int} (hK : 0 < K) (hn : n ≤ K) (h : Bl K 0 n p f) : Seg p f 0 n := fun i j k1 k2 k3 => h i j k1 k2 k3 (by rw [Nat.div_eq_of_lt (by omega), Nat.div_eq_of_lt (by omega)])
/-- The hours in their first order. -/
def HrsI (n : Nat) (xs : List Int) : Prop := xs.length = n ∧ ∀ i, i < n → nth xs i = i
theorem HrsI.range {n : Nat} {xs : List Int} (h : HrsI n xs) {g : Nat → Int} (hp : PI 0 n (nth xs) g) : ∀ i, i < n → 0 ≤ g i ∧ g i < n := hp.range (P := fun v => 0 ≤ v ∧ v < n) (Nat.le_refl n) (fun i hi => by
  rw [h.2 i hi]
  omega)
theorem bl_symH {K a b n : Nat} {ps xs ys : List Int} (hx : HrsI n xs) (hy : ys.length = n) (hp : PI 0 n (nth xs) (nth ys)) (hK : K = 20 ∨ K = 40) (ha : a % (2 * K) = 0) (hb : a + K < b) (hb2 : b ≤ a + 2 * K) (hn : b ≤ n) (h1 : Bl K a n (pr ps) (nth ys)) (h2 : Inb K a n (nth ys)) : SymH n a (a + K) b ps ys := by
  obtain ⟨q1, q2, q3⟩ := bl_merge hK ha hb hb2 hn h1 h2
  exact ⟨hy, hx.range hp, q1, q2, q3⟩
/-- A list is the hours by price. -/
def Srt (n : Nat) (ps xs ys : List Int) : Prop := ys.length = n ∧ PI 0 n (nth xs) (nth ys) ∧ Seg (pr ps) (nth ys) 0 n
set_option maxRecDepth 100000 in
set_option maxHeartbeats 4000000 in
theorem stable_c (g n c : Nat) (xs : List Int) (hx : HrsI n xs) (B d : Nat) (ps : List Int) (hps : ps.length = n) (hn : n ≤ 60) (w : World) (hP : PC w B d ps) (h : OwnI 3 w B (.slice (some ⟨g, 0, none⟩) n c) xs) : Calls Try.prog 22 #[.slice (some ⟨g, 0, none⟩) n c, .int .i64 n, .func (.func 19) #[] #[.pointer (some ⟨d, 0, none⟩)]] w fun e w' => e = .returned (.tuple #[]) ∧ ∃ ys : List Int, Srt n ps xs ys ∧ OwnI 3 w' B (.slice (some ⟨g, 0, none⟩) n c) ys ∧ Below B w w' := by
  have HH := Lib.hid h
  have HP := Lib.hid hP
  have HX := Lib.hid hx
  have HPS := Lib.hid hps
  clear h hP hx hps
  go_enter Try.func22, Try.ntmps22
  go_wp2
  go_loopw [7, 8] (fun u v wr => ∃ (a b : Nat) (ys : List Int), a ≤ n ∧ Hid (a % 20 = 0 ∧ b = a + 20) ∧ b ≤ 1000 ∧ u = .int .i64 a ∧ v = .int .i64 b ∧ Hid (ys.length = n) ∧ Hid (PI 0 n (nth xs) (nth ys)) ∧ Hid (Bl 20 0 a (pr ps) (nth ys)) ∧ Hid (Inb 20 0 a (nth ys)) ∧ Hid (Idn a n (nth ys)) ∧ Hid (OwnI 3 wr B (.slice (some ⟨g, 0, none⟩) n c) ys) ∧ Below B w wr) (fun u v _ => n + 1 - (intOf u).toNat)
  case atStart => exact ⟨0, 20, xs, by omega, Lib.hid ⟨rfl, rfl⟩, by omega, by go_num, by go_num, Lib.hid HX.out.1, Lib.hid (PI.refl _ _ _), Lib.hid bl_z1, Lib.hid bl_z2, Lib.hid (fun i _ hi => HX.out.2 i hi), HH, Below.refl _ _⟩
  case round =>
    obtain ⟨a, b, ys, ha, HA, hb1, rfl, rfl, HYL, HPI, HBL, HIN, HID, HO, hBr⟩ := hrel
    have HPr := Lib.hid (HP.out.below hBr)
    by_cases hlt : b ≤ n
    · have i1 : (b : Int) ≤ n := by omega
      go_wp2_with (go_at_call 24; go_loud (with_reducible refine (insC_c g n c ys HYL.out a b (by have := HA.out; omega) hlt B d ps HPS.out (by omega) _ HPr.out (HID.out.on hlt) HO.out).mono ?_); rintro ex w1 ⟨rfl, zs, hzl, hpi, hsg, hO1, hB1⟩; have HZ := Lib.hid (ins_next HA.out.1 (by have := HA.out; omega) (by have := HA.out; omega) hlt HBL.out HIN.out HID.out hpi hsg); have HPZ := Lib.hid (HPI.out.trans (hpi.wide (Nat.zero_le _) hlt)); have HZL := Lib.hid hzl; have HO1 := Lib.hid hO1; have HB1 := Lib.hid (hBr.trans hB1); clear hzl hpi hsg hO1 hB1)
      go_roundw
      case rel => exact ⟨b, b + 20, zs, hlt, Lib.hid (by have := HA.out; omega), by omega, rfl, by go_num, HZL, HPZ, Lib.hid HZ.out.1, Lib.hid HZ.out.2.1, Lib.hid HZ.out.2.2, HO1, HB1.out⟩
      case measure => have := HA.out; simp [intOf]; omega
    · have i1 : ¬ (b : Int) ≤ n := by omega
      go_wp2_with (go_at_call 24; (with_reducible refine (insC_c g n c ys HYL.out a n ha (Nat.le_refl _) B d ps HPS.out (by omega) _ HPr.out (HID.out.on (Nat.le_refl _)) HO.out).mono ?_); rintro ex w1 ⟨rfl, zs, hzl, hpi, hsg, hO1, hB1⟩; have HZ := Lib.hid (ins_next HA.out.1 ha (by have := HA.out; omega) (Nat.le_refl _) HBL.out HIN.out HID.out hpi hsg); have HPZ := Lib.hid (HPI.out.trans (hpi.wide (Nat.zero_le _) (Nat.le_refl _))); have HZL := Lib.hid hzl; have HO1 := Lib.hid hO1; have HB1 := Lib.hid (hBr.trans hB1); clear hzl hpi hsg hO1 hB1)
      clear HPI HBL HIN HID HO HYL hBr HPr HH
      go_loopw [6, 7, 8] (fun k u v wr => ∃ (K : Nat) (u' v' : Int) (us : List Int), Hid (K = 20 ∨ K = 40 ∨ K = 80) ∧ K ≤ 80 ∧ 20 ≤ K ∧ k = .int .i64 K ∧ u = .int .i64 u' ∧ v = .int .i64 v' ∧ Hid (us.length = n) ∧ Hid (PI 0 n (nth xs) (nth us)) ∧ Hid (Bl K 0 n (pr ps) (nth us)) ∧ Hid (Inb K 0 n (nth us)) ∧ Hid (OwnI 3 wr B (.slice (some ⟨g, 0, none⟩) n c) us) ∧ Below B w wr) (fun k _ _ _ => 100 - (intOf k).toNat)
      case atStart => exact ⟨20, _, _, zs, Lib.hid (.inl rfl), by omega, by omega, rfl, rfl, rfl, HZL, HPZ, Lib.hid HZ.out.1, Lib.hid HZ.out.2.1, HO1, HB1.out⟩
      case round =>
        obtain ⟨K, u', v', us, HK, K1, K2, rfl, rfl, rfl, HUL, HPU, HBL, HIN, HO, hBr⟩ := hrel
        by_cases hkn : K < n
        · have hkn' : (K : Int) < n := by omega
          have HK2 := Lib.hid (show K = 20 ∨ K = 40 by have := HK.out; omega)
          obtain ⟨D, hD, hD2, HD, D1, D2⟩ : ∃ D : Nat, (2 : Int) * (K : Int) = (D : Int) ∧ (K : Int) * 2 = (D : Int) ∧ Hid (D = 2 * K) ∧ 40 ≤ D ∧ D ≤ 80 := ⟨2 * K, by omega, by omega, Lib.hid rfl, by have := HK2.out; omega, by have := HK2.out; omega⟩
          obtain ⟨wo, rfl⟩ : ∃ wo : World, wo = wr := ⟨_, rfl⟩
          go_wp2
          go_loopw [7, 8] (fun u v wr => ∃ (a b : Nat) (ys : List Int), a ≤ n ∧ Hid (a % (2 * K) = 0 ∧ b = a + 2 * K) ∧ b ≤ 1000 ∧ u = .int .i64 a ∧ v = .int .i64 b ∧ Hid (ys.length = n) ∧ Hid (PI 0 n (nth xs) (nth ys)) ∧ Hid (Bl (2 * K) 0 a (pr ps) (nth ys)) ∧ Hid (Inb (2 * K) 0 a (nth ys)) ∧ Hid (Bl K a n (pr ps) (nth ys)) ∧ Hid (Inb K a n (nth ys)) ∧ Hid (OwnI 3 wr B (.slice (some ⟨g, 0, none⟩) n c) ys) ∧ Below B w wr) (fun u v _ => n + 1 - (intOf u).toNat)
          case atStart => exact ⟨0, D, us, by omega, Lib.hid ⟨Nat.zero_mod _, by have := HD.out; omega⟩, by omega, by go_num, rfl, HUL, HPU, Lib.hid bl_z1, Lib.hid bl_z2, HBL, HIN, HO, hBr⟩
          case round =>
            clear HUL HPU HBL HIN HO hBr
            obtain ⟨a, b, ys, ha, HA, hb1, rfl, rfl, HYL, HPI, HB0, HI0, HB1, HI1, HO, hBr⟩ := hrel
            have HPr := Lib.hid (HP.out.below hBr)
            obtain ⟨m, hm, HM, m1⟩ : ∃ m : Nat, (a : Int) + (K : Int) = (m : Int) ∧ Hid (m = a + K) ∧ m ≤ 1000 := ⟨a + K, by omega, Lib.hid rfl, by have := HA.out; omega⟩
            by_cases hlt : b ≤ n
            · have i1 : (b : Int) ≤ n := by omega
              have HS := Lib.hid (bl_symH HX.out HYL.out HPI.out HK2.out HA.out.1 (show a + K < b by have := HA.out; omega) (show b ≤ a + 2 * K by have := HA.out; omega) hlt HB1.out HI1.out)
              rw [← HM.out] at HS
              go_wp2_with (go_at_call 25; (with_reducible refine (sym_c g n c B d ps HPS.out (by omega) (b - a) a m b ys _ (Nat.le_refl _) (by have := HM.out; omega) (by have := HM.out; have := HA.out; omega) hlt HS.out HPr.out HO.out).mono ?_); rintro ex w2 ⟨rfl, zs, hzl, hpi, hsg, hO1, hB1⟩; have HZ := Lib.hid (bl_next HK2.out HA.out.1 (by have := HA.out; omega) (by have := HA.out; omega) hlt HB0.out HI0.out HB1.out HI1.out hpi hsg); have HPZ := Lib.hid (HPI.out.trans (hpi.wide (Nat.zero_le _) hlt)); have HZL := Lib.hid hzl; have HO2 := Lib.hid hO1; have HB2 := Lib.hid (hBr.trans hB1); clear hzl hpi hsg hO1 hB1)
              go_roundw
              case rel => exact ⟨b, b + D, zs, hlt, Lib.hid (by have h1 := HA.out; have h2 := HD.out; refine ⟨?_, by omega⟩; rw [h1.2, Nat.add_mod_right]; exact h1.1), by omega, rfl, by go_num, HZL, HPZ, Lib.hid HZ.out.1, Lib.hid HZ.out.2.1, Lib.hid HZ.out.2.2.1, Lib.hid HZ.out.2.2.2, HO2, HB2.out⟩
              case measure => have := HA.out; simp [intOf]; omega
            · have i1 : ¬ (b : Int) ≤ n := by omega
              by_cases hmn : m < n
              · have i2 : (m : Int) < n := by omega
                have HS := Lib.hid (bl_symH HX.out HYL.out HPI.out HK2.out HA.out.1 (show a + K < n by have := HM.out; omega) (show n ≤ a + 2 * K by have := HA.out; omega) (Nat.le_refl n) HB1.out HI1.out)
                rw [← HM.out] at HS
                go_wp2_with (go_at_call 25; (with_reducible refine (sym_c g n c B d ps HPS.out (by omega) (n - a) a m n ys _ (Nat.le_refl _) (by have := HM.out; omega) hmn (Nat.le_refl _) HS.out HPr.out HO.out).mono ?_); rintro ex w2 ⟨rfl, zs, hzl, hpi, hsg, hO1, hB1⟩; have HZ := Lib.hid (bl_next HK2.out HA.out.1 (by omega) (by have := HA.out; omega) (Nat.le_refl _) HB0.out HI0.out HB1.out HI1.out hpi hsg); have HPZ := Lib.hid (HPI.out.trans (hpi.wide (Nat.zero_le _) (Nat.le_refl _))); have HZL := Lib.hid hzl; have HO2 := Lib.hid hO1; have HB2 := Lib.hid (hBr.trans hB1); clear hzl hpi hsg hO1 hB1)
                go_roundw
                case rel => exact ⟨D, _, _, zs, Lib.hid (by have := HD.out; have := HK2.out; omega), D2, by omega, rfl, rfl, rfl, HZL, HPZ, Lib.hid (by rw [HD.out]; exact HZ.out.1), Lib.hid (by rw [HD.out]; exact HZ.out.2.1), HO2, HB2.out⟩
                case measure => have := HD.out; simp [intOf]; omega
              · have i2 : ¬ (m : Int) < n := by omega
                have HZ := Lib.hid (bl_end HK2.out HA.out.1 ha (show n ≤ a + K by have := HM.out; omega) HB0.out HI0.out HB1.out HI1.out)
                go_wp2
                go_roundw
                case rel => exact ⟨D, _, _, ys, Lib.hid (by have := HD.out; have := HK2.out; omega), D2, by omega, rfl, rfl, rfl, HYL, HPI, Lib.hid (by rw [HD.out]; exact HZ.out.1), Lib.hid (by rw [HD.out]; exact HZ.out.2), HO, hBr⟩
                case measure => have := HD.out; simp [intOf]; omega
        · have hkn' : ¬ (K : Int) < n := by omega
          go_wp2
          go_returns
          exact ⟨by simp, us, ⟨HUL.out, HPU.out, bl_seg (by omega) (by omega) HBL.out⟩, HO.out, hBr⟩
end Go.Proofs.Ytbdhelekmdpbiaa
