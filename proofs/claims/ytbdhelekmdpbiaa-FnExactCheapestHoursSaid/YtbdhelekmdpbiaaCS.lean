/- swapRange, rotate of slices.SortStableFunc at int. -/
import Derived.Test.YtbdhelekmdpbiaaCP
import Derived.BigQuiet
namespace Go.Proofs.Ytbdhelekmdpbiaa
open Go.ChangeShapes Go.WideShapes Go.ChangeAt Go.RowKit
set_option linter.unusedVariables false
set_option linter.unusedSimpArgs false

theorem nth_set {xs : List Int} {i j : Nat} {v : Int} (hi : i < xs.length) : nth (xs.set i v) j = if i = j then v else nth xs j := by
  unfold nth
  simp only [List.getD_eq_getElem?_getD, List.getElem?_set]
  by_cases h : i = j
  · subst h
    simp [hi]
  · simp [h]
theorem swr_step {xs ys : List Int} {a b i : Nat} (hl : b + i < ys.length) (hab : a + i < b) (h : Swr a b i (nth xs) (nth ys)) : Swr a b (i + 1) (nth xs) (nth ((ys.set (a + i) (nth ys (b + i))).set (b + i) (nth ys (a + i)))) := by
  obtain ⟨h1, h2⟩ := h
  have e : ∀ k, nth ((ys.set (a + i) (nth ys (b + i))).set (b + i) (nth ys (a + i))) k = if b + i = k then nth ys (a + i) else if a + i = k then nth ys (b + i) else nth ys k := fun k => by
    rw [nth_set (by simp; omega), nth_set (by omega)]
  have ea := h2 (a + i) (by omega) (by omega)
  have eb := h2 (b + i) (by omega) (by omega)
  refine ⟨fun t ht => ?_, fun k k1 k2 => ?_⟩
  · by_cases hti : t = i
    · subst hti
      rw [e, e, if_neg (by omega), if_pos rfl, if_pos rfl, ea, eb]
      exact ⟨rfl, rfl⟩
    · obtain ⟨q1, q2⟩ := h1 t (by omega)
      rw [e, e, if_neg (by omega), if_neg (by omega), if_neg (by omega), if_neg (by omega)]
      exact ⟨q1, q2⟩
  · rw [e, if_neg (by omega), if_neg (by omega)]
    exact h2 k (by omega) (by omega)
set_option maxRecDepth 100000 in
set_option maxHeartbeats 4000000 in
theorem swapRange_c (g n c : Nat) (xs : List Int) (hl : xs.length = n) (hn : n ≤ 1000) (a b k : Nat) (f : Value) (hab : a + k ≤ b) (hb : b + k ≤ n) (B : Nat) (w : World) (h : OwnI 3 w B (.slice (some ⟨g, 0, none⟩) n c) xs) : Calls Try.prog 27 #[.slice (some ⟨g, 0, none⟩) n c, .int .i64 a, .int .i64 b, .int .i64 k, f] w fun e w' => e = .returned (.tuple #[]) ∧ ∃ ys : List Int, ys.length = n ∧ Swr a b k (nth xs) (nth ys) ∧ OwnI 3 w' B (.slice (some ⟨g, 0, none⟩) n c) ys ∧ Below B w w' := by
  have HH := Lib.hid h
  clear h
  go_enter Try.func27, Try.ntmps27
  go_wp2
  go_loopw [10] (fun v wr => ∃ (i : Nat) (ys : List Int), i ≤ k ∧ v = .int .i64 i ∧ ys.length = n ∧ Hid (Swr a b i (nth xs) (nth ys)) ∧ Hid (OwnI 3 wr B (.slice (some ⟨g, 0, none⟩) n c) ys) ∧ Below B w wr) (fun v _ => k - (intOf v).toNat)
  case atStart => exact ⟨0, xs, by omega, rfl, hl, Lib.hid ⟨fun t ht => by omega, fun _ _ _ => rfl⟩, HH, Below.refl _ _⟩
  case round =>
    obtain ⟨i, ys, hi, rfl, hyl, HS, HO, hBr⟩ := hrel
    by_cases hlt : i < k
    · have i1 : (i : Int) < k := by omega
      obtain ⟨x, hx, hxn⟩ : ∃ x : Nat, a + i = x ∧ x < n := ⟨_, rfl, by omega⟩
      obtain ⟨y, hy, hyn⟩ : ∃ y : Nat, b + i = y ∧ y < n := ⟨_, rfl, by omega⟩
      have hx' : (a : Int) + (i : Int) = (x : Int) := by omega
      have hy' : (b : Int) + (i : Int) = (y : Int) := by omega
      have x1 : (x : Int) < n := by omega
      have y1 : (y : Int) < n := by omega
      have hxy : x < y := by omega
      have HN := Lib.hid (swr_step (by omega) (by omega) HS.out)
      rw [hx, hy] at HN
      clear hx hy
      obtain ⟨_, hcl⟩ := HO.out.row
      obtain ⟨g', off', e1, hgl, cx⟩ := hcl.at_ (show x < ys.length by omega)
      obtain ⟨g'', off'', e2, _, cy⟩ := hcl.at_ (show y < ys.length by omega)
      simp only [Option.some.injEq, Addr.mk.injEq, and_true] at e1 e2
      obtain ⟨rfl, rfl⟩ := e1
      obtain ⟨rfl, rfl⟩ := e2
      rw [Nat.zero_add] at cx cy
      have fx := HO.out.free x
      have fy := HO.out.free y
      have nxy : ¬ x = y := by omega
      have nyx : ¬ y = x := by omega
      generalize hvx : nth ys x = vx at *
      generalize hvy : nth ys y = vy at *
      have HS1 := Lib.hid (HO.out.store x vy)
      have HS2 := Lib.hid (HS1.out.1.store y vx)
      go_wp2
      go_region
      all_goals go_wp2
      go_roundw
      case rel => exact ⟨i + 1, _, by omega, by go_num, by rw [List.length_set, List.length_set]; exact hyl, HN, Lib.hid (by first | exact HS2.out.1 | exact HS2.out.1.drewN 1), by first | exact ((hBr.trans HS1.out.2).trans HS2.out.2).drew | exact bdrewN ((hBr.trans HS1.out.2).trans HS2.out.2) 1⟩
      case measure => simp [intOf]; omega
    · obtain rfl : i = k := by omega
      go_wp2
      go_returns
      exact ⟨by simp, ys, hyl, HS.out, HO.out, hBr⟩
/-- The rotation's result. -/
def rotF (a m b : Nat) (f : Nat → Int) (k : Nat) : Int := if k < a ∨ b ≤ k then f k else if k < a + (b - m) then f (m + (k - a)) else f (k - (b - m))
theorem rotF_is {a m b : Nat} (h1 : a ≤ m) (h2 : m ≤ b) (f : Nat → Int) : Rot a m b f (rotF a m b f) := by
  refine ⟨fun i hi => by rw [rotF, if_pos hi], fun t ht => ?_, fun t ht => ?_⟩
  · rw [rotF, if_neg (by omega), if_pos (by omega)]
    congr 1
    omega
  · rw [rotF, if_neg (by omega), if_neg (by omega)]
    congr 1
    omega
set_option maxRecDepth 100000 in
set_option maxHeartbeats 4000000 in
theorem rotate_c (g n c : Nat) (xs : List Int) (hl : xs.length = n) (hn : n ≤ 1000) (a m b : Nat) (f : Value) (ham : a < m) (hmb : m < b) (hb : b ≤ n) (B : Nat) (w : World) (h : OwnI 3 w B (.slice (some ⟨g, 0, none⟩) n c) xs) : Calls Try.prog 26 #[.slice (some ⟨g, 0, none⟩) n c, .int .i64 a, .int .i64 m, .int .i64 b, f] w fun e w' => e = .returned (.tuple #[]) ∧ ∃ ys : List Int, ys.length = n ∧ Rot a m b (nth xs) (nth ys) ∧ OwnI 3 w' B (.slice (some ⟨g, 0, none⟩) n c) ys ∧ Below B w w' := by
  have HH := Lib.hid h
  have hR := rotF_is (Nat.le_of_lt ham) (Nat.le_of_lt hmb) (nth xs)
  obtain ⟨R, hR2⟩ : ∃ R, rotF a m b (nth xs) = R := ⟨_, rfl⟩
  rw [hR2] at hR
  have HR := Lib.hid hR
  have HR2 := Lib.hid hR
  clear h hR hR2
  go_enter Try.func26, Try.ntmps26
  go_wp2
  go_loopw [10, 11] (fun u v wr => ∃ (i j : Nat) (ys : List Int), 0 < i ∧ 0 < j ∧ i ≤ m ∧ m + j ≤ n ∧ u = .int .i64 i ∧ v = .int .i64 j ∧ ys.length = n ∧ Hid (Rot (m - i) m (m + j) (nth ys) R) ∧ Hid (OwnI 3 wr B (.slice (some ⟨g, 0, none⟩) n c) ys) ∧ Below B w wr) (fun u v _ => (intOf u).toNat + (intOf v).toNat)
  case atStart => exact ⟨m - a, b - m, xs, by omega, by omega, by omega, by omega, by congr 1; omega, by congr 1; omega, hl, Lib.hid (by rw [show m - (m - a) = a by omega, show m + (b - m) = b by omega]; exact HR.out), HH, Below.refl _ _⟩
  case round =>
    obtain ⟨i, j, ys, hi0, hj0, him, hjn, rfl, rfl, hyl, HS, HO, hBr⟩ := hrel
    have e1 : (m : Int) - (i : Int) = ((m - i : Nat) : Int) := by omega
    rcases Nat.lt_trichotomy i j with hij | hij | hij
    · have q1 : ((i : Int) == (j : Int)) = false := by simp; omega
      have q1' : ¬ (i : Int) = (j : Int) := by omega
      have q2 : ¬ (j : Int) < (i : Int) := by omega
      have e2 : (m : Int) + (j : Int) - (i : Int) = ((m + j - i : Nat) : Int) := by omega
      have e3 : (j : Int) - (i : Int) = ((j - i : Nat) : Int) := by omega
      go_wp2_with (go_at_call 27; (with_reducible refine (swapRange_c g n c ys hyl hn (m - i) (m + j - i) i f (by omega) (by omega) B _ HO.out).mono ?_); rintro e w1 ⟨rfl, zs, hzl, hsw, hO1, hB1⟩; have HZ := Lib.hid (rot_right hi0 hij him HS.out hsw); have HO1 := Lib.hid hO1; have HB1 := Lib.hid (hBr.trans hB1); clear hsw hO1 hB1)
      go_roundw
      case rel => exact ⟨i, j - i, zs, hi0, by omega, him, by omega, rfl, by first | rfl | (congr 1; omega), hzl, HZ, HO1, HB1.out⟩
      case measure => simp [intOf]; omega
    · subst hij
      go_wp2_with (go_at_call 27; (with_reducible refine (swapRange_c g n c ys hyl hn (m - i) m i f (by omega) (by omega) B _ HO.out).mono ?_); rintro e w1 ⟨rfl, zs, hzl, hsw, hO1, hB1⟩; have HZ := Lib.hid (rot_end him HS.out hsw); have HO1 := Lib.hid hO1; have HB1 := Lib.hid (hBr.trans hB1); clear hsw hO1 hB1)
      go_returns
      exact ⟨by simp, zs, hzl, by rw [show nth zs = R from (funext HZ.out).symm]; exact HR2.out, HO1.out, HB1.out⟩
    · have q1 : ((i : Int) == (j : Int)) = false := by simp; omega
      have q1' : ¬ (i : Int) = (j : Int) := by omega
      have q2 : (j : Int) < (i : Int) := by omega
      have e3 : (i : Int) - (j : Int) = ((i - j : Nat) : Int) := by omega
      go_wp2_with (go_at_call 27; (with_reducible refine (swapRange_c g n c ys hyl hn (m - i) m j f (by omega) (by omega) B _ HO.out).mono ?_); rintro e w1 ⟨rfl, zs, hzl, hsw, hO1, hB1⟩; have HZ := Lib.hid (rot_left hj0 hij him HS.out hsw); have HO1 := Lib.hid hO1; have HB1 := Lib.hid (hBr.trans hB1); clear hsw hO1 hB1)
      go_roundw
      case rel => exact ⟨i - j, j, zs, by omega, hj0, by omega, hjn, by first | rfl | (congr 1; omega), rfl, hzl, HZ, HO1, HB1.out⟩
      case measure => simp [intOf]; omega
end Go.Proofs.Ytbdhelekmdpbiaa
