/- The gear for a force and a speed. -/
import Derived.Test.YtgnanppgbkngnaaU
import Derived.Test.YtgnanppgbkngnaaM2
namespace Go.Proofs.Ytgnanppgbkngnaa
open Go.ChangeShapes Go.WideShapes Go.ChangeAt Go.RowKit
set_option linter.unusedVariables false
set_option linter.unusedSimpArgs false

theorem workI_bdW {f v : Int} (f0 : -10000000 ≤ f) (f1 : f ≤ 10000000) (v0 : 0 ≤ v) (v1 : v ≤ 200000) : (-2000000000000 ≤ f * v ∧ f * v ≤ 2000000000000) ∧ -2000000000 ≤ workI f v ∧ workI f v ≤ 2000000000 := by
  have h := mul_bd2 f0 f1 v0 v1
  refine ⟨by omega, ?_⟩
  exact tdiv_bd (by omega) (by omega)
theorem divR_le_of' {a b A : Int} (h : a ≤ A * b) (h' : -(A * b) ≤ a) (hA : 0 ≤ A) (hb : 0 < b) : -A ≤ divR a b ∧ divR a b ≤ A := by
  have key : ∀ c, 0 ≤ c → c ≤ A * b → 0 ≤ divR c b ∧ divR c b ≤ A := fun c c0 c1 => by
    have h1 := divR_mono c1 hb
    have h2 : divR (A * b) b = A := by
      rw [divR_nonneg (Int.mul_nonneg hA (by omega)) hb, Int.mul_emod_left, Int.mul_ediv_cancel _ (by omega), if_neg (by omega)]
      omega
    exact ⟨divR_pos c0 hb, by omega⟩
  by_cases g : a < 0
  · rw [divR_neg g]
    have := key (-a) (by omega) (by omega)
    omega
  · have := key a (by omega) h
    omega
/-- The force and the speed at a gear. -/
def gearF (f g : Int) : Int := divR (1000 * f) g
def gearV (v g : Int) : Int := divR (v * g) 1000
theorem gearF_bd {f g : Int} (f0 : -1000000 ≤ f) (f1 : f ≤ 1000000) (g0 : 100 ≤ g) : -10000000 ≤ gearF f g ∧ gearF f g ≤ 10000000 := divR_le_of' (by omega) (by omega) (by omega) (by omega)
theorem gearV_bd {v g : Int} (v0 : 0 ≤ v) (v1 : v ≤ 20000) (g0 : 0 ≤ g) (g1 : g ≤ 10000) : (0 ≤ v * g ∧ v * g ≤ 200000000) ∧ 0 ≤ gearV v g ∧ gearV v g ≤ 200000 := by
  have h := mul_bd v0 v1 g0 g1
  refine ⟨by omega, divR_pos h.1 (by omega), ?_⟩
  exact (divR_le_of' (A := 200000) (by omega) (by omega) (by omega) (by omega)).2
def hitB (p m l f v g : Int) : Bool := canB p m l (gearF f g) (gearV v g) && inB (gearV v g) 0 20000 && inB (gearF f g) (-1000000) 1000000
def gearI (p m l f v : Int) (xs : List Int) : Nat → Nat → Int × Int
  | 0, _ => (0, 3)
  | n + 1, k => if hitB p m l f v (nth xs k) then ((k : Int), 0) else gearI p m l f v xs n (k + 1)
theorem gearI_hit {p m l f v : Int} {xs : List Int} {n k : Nat} (h : hitB p m l f v (nth xs k) = true) : gearI p m l f v xs (n + 1) k = ((k : Int), 0) := by rw [gearI, h]; rfl
theorem gearI_on {p m l f v : Int} {xs : List Int} {n k : Nat} (h : hitB p m l f v (nth xs k) = false) : gearI p m l f v xs (n + 1) k = gearI p m l f v xs n (k + 1) := by rw [gearI, h]; rfl
def gearB (f v : Int) (xs : List Int) : Bool := decide (1 ≤ (xs.length : Int)) && decide ((xs.length : Int) ≤ 6) && inB f (-1000000) 1000000 && inB v 0 20000
def fGear (p m l f v : Int) (xs : List Int) : Int × Int := if motorOk p m l then (if gearB f v xs && risesB xs 100 10000 then gearI p m l f v xs xs.length 0 else (0, 2)) else (0, 1)
theorem rise_at {xs : List Int} {lo hi : Int} {n k : Nat} (h : riseTo xs lo hi n = true) (hk : k < n) : lo ≤ nth xs k ∧ nth xs k ≤ hi := by
  have g : stepB xs lo hi k = true := by
    rcases hs : stepB xs lo hi k with _ | _
    · have := riseTo_false hs n hk
      rw [h] at this
      cases this
    · rfl
  cases k with
  | zero => exact inB_true g
  | succ k =>
    simp only [stepB, Bool.and_eq_true] at g
    exact inB_true g.1
/-- Does the program's PowerNeeded say OK? -/
theorem fPower_ok {p m l f v g : Int} (hok : motorOk p m l = true) : ((fPower p m l (gearF f g) (gearV v g)).2 == 0) = hitB p m l f v g := by
  unfold fPower hitB
  rw [hok]
  cases inB (gearF f g) (-1000000) 1000000 <;> cases inB (gearV v g) 0 20000 <;> cases canB p m l (gearF f g) (gearV v g) <;> rfl
theorem l10NeedW_c (p m l f v : Int) (hp : 1000 ≤ p) (hl0 : 0 ≤ l) (hl1 : l ≤ 500) (f0 : -10000000 ≤ f) (f1 : f ≤ 10000000) (v0 : 0 ≤ v) (v1 : v ≤ 200000) (b : Nat) (w : World) (h0 : w.cell? ⟨b, 0, none⟩ = some (.int .i64 p)) (h1 : w.cell? ⟨b, 1, none⟩ = some (.int .i64 m)) (h2 : w.cell? ⟨b, 2, none⟩ = some (.int .i64 l)) : Calls Try.prog 52 #[.pointer (some ⟨b, 0, none⟩), .int .i64 f, .int .i64 v] w fun e w' => e = .returned (.tuple #[.int .i64 (needI m l f v), .bool (canB p m l f v)]) ∧ ∃ n, w' = w.drewN n := by
  obtain ⟨⟨t0, t1⟩, q0, q1⟩ := workI_bdW f0 f1 v0 v1
  have hq : (f * v).tdiv 1000 = workI f v := rfl
  by_cases g : m < f
  · have hc : canB p m l f v = false := by unfold canB; simp; omega
    have hn : needI m l f v = 0 := by unfold needI; rw [if_pos g]
    rw [hc, hn]
    clear hn
    clear hc
    go_enter Try.func52, Try.ntmps52
    go_wp2
    go_ret2
    exact ⟨rfl, 0, rfl⟩
  have hc : canB p m l f v = decide (powerI l f v ≤ p) := by unfold canB; simp; omega
  have hn : needI m l f v = powerI l f v := by unfold needI; rw [if_neg g]
  rw [hc, hn]
  clear hc hn
  by_cases h : 0 < workI f v
  · have hP : powerI l f v = (1000 * workI f v + 999 - l) / (1000 - l) := by unfold powerI; rw [if_pos h]; congr 1; omega
    rw [hP]
    clear hP
    have n0 : 0 ≤ (1000 * workI f v + 999 - l) / (1000 - l) := Int.ediv_nonneg (by omega) (by omega)
    have n1 : (1000 * workI f v + 999 - l) / (1000 - l) ≤ 1000 * workI f v + 999 - l := Int.ediv_le_self _ (by omega)
    generalize workI f v = q at *
    go_enter Try.func52, Try.ntmps52
    go_wp2
    go_quiet (fail)
    go_wp2
    go_quiet (fail)
    go_wp2
    go_ret2
    exact ⟨by simp, _, World.drewN_drewN _ _ _⟩
  · have hP : powerI l f v = -(-workI f v * (1000 - l) / 1000) := by unfold powerI; rw [if_neg h]
    rw [hP]
    clear hP
    obtain ⟨k0, k1⟩ := mul_bd (show 0 ≤ -workI f v by omega) (show -workI f v ≤ 2000000000 by omega) (show 0 ≤ 1000 - l by omega) (show 1000 - l ≤ 1000 by omega)
    have hd : decide (-(-workI f v * (1000 - l) / 1000) ≤ p) = true := by simp; omega
    rw [hd]
    clear hd
    generalize workI f v = q at *
    go_enter Try.func52, Try.ntmps52
    go_wp2
    go_ret2
    exact ⟨by simp, 0, rfl⟩
set_option maxHeartbeats 1000000 in
theorem specGearFor_t (p m l f v : Int) (A : Option Addr) (c : Nat) (xs : List Int) (hn : xs.length ≤ 1048576) (hok : motorOk p m l = true) (hb : gearB f v xs = true) (w : World) (hr : RowI w A xs) : Calls Try.prog 34 #[.agg #[.int .i64 p, .int .i64 m, .int .i64 l], .slice A xs.length c, .int .i64 f, .int .i64 v] w fun e w' => e = .returned (.tuple #[.int .i64 (fGear p m l f v xs).1, .int .i64 (fGear p m l f v xs).2]) ∧ Below w.heap.size w w' := by
  obtain ⟨⟨p0, p1⟩, ⟨m0, m1⟩, ⟨l0, l1⟩⟩ := motorOk_true hok
  have hb' := hb
  simp only [gearB, Bool.and_eq_true, decide_eq_true_eq] at hb'
  obtain ⟨⟨⟨n0, n1⟩, hf⟩, hv⟩ := hb'
  obtain ⟨f0, f1⟩ := inB_true hf
  obtain ⟨v0, v1⟩ := inB_true hv
  have HF := Lib.hid (show fGear p m l f v xs = if risesB xs 100 10000 then gearI p m l f v xs xs.length 0 else (0, 2) by simp only [fGear, hok, hb, Bool.true_and, if_true])
  go_enter Try.func34, Try.ntmps34
  go_wp2_with
    (first
      | (go_at_call 50; go_call (l10Ok_c p m l); rintro e w' ⟨rfl, rfl⟩)
      | (go_at_call 51; go_call (l10Force_c _ _); rintro e w' ⟨rfl, rfl⟩)
      | (go_at_call 67; go_call (l10Speed_c _ _); rintro e w' ⟨rfl, rfl⟩))
  clear hok hb
  have HFF := Lib.hid hf
  have HVV := Lib.hid hv
  clear hf hv
  have hr1 : RowI (w.alloc (.cells #[.int .i64 p, .int .i64 m, .int .i64 l] 28)) A xs := hr.alloc _
  have k0 : (w.alloc (.cells #[.int .i64 p, .int .i64 m, .int .i64 l] 28)).cell? ⟨w.heap.size, 0, none⟩ = some (.int .i64 p) := by simp
  have k1 : (w.alloc (.cells #[.int .i64 p, .int .i64 m, .int .i64 l] 28)).cell? ⟨w.heap.size, 1, none⟩ = some (.int .i64 m) := by simp
  have k2 : (w.alloc (.cells #[.int .i64 p, .int .i64 m, .int .i64 l] 28)).cell? ⟨w.heap.size, 2, none⟩ = some (.int .i64 l) := by simp
  have kB : Below w.heap.size w (w.alloc (.cells #[.int .i64 p, .int .i64 m, .int .i64 l] 28)) := (Below.refl _ _).alloc (Nat.le_refl _) _
  clear hr
  generalize w.alloc (.cells #[.int .i64 p, .int .i64 m, .int .i64 l] 28) = W at *
  go_loopw [10] (fun x wr => ∃ k : Nat, k ≤ xs.length ∧ x = .int .i64 k ∧ Hid (riseTo xs 100 10000 k = true) ∧ ∃ n, wr = W.drewN n) (fun x _ => xs.length - (intOf x).toNat)
  case atStart => exact ⟨0, by omega, rfl, Lib.hid rfl, 0, rfl⟩
  case round =>
    obtain ⟨k, hk, rfl, HK, n, rfl⟩ := hrel
    by_cases hlt : k < xs.length
    · obtain ⟨b, off, rfl, hbb, hc⟩ := hr1 (by omega)
      have c1 := hc k hlt
      have i1 : (k : Int) < xs.length := by omega
      rcases k with _ | j
      · have c1' : W.cell? ⟨b, off, none⟩ = some (.int .i64 (nth xs 0)) := c1
        have i0 : (0 : Int) < xs.length := by omega
        clear hc hr1
        cases k1' : inB (nth xs 0) 100 10000
        · have HR := Lib.hid (show risesB xs 100 10000 = false from riseTo_false (show stepB xs 100 10000 0 = false from k1') xs.length hlt)
          go_wp2
          go_quiet ((first
              | (go_at_call 44; first | with_reducible exact quiet_add_left (l00In_v k1' _) | with_reducible exact quiet_left (l00In_v k1' _))))
          go_wp2
          go_returns
          exact ⟨by rw [HF.out, HR.out]; rfl, (by first | exact bdrewN kB _ | exact bdrewN (bdrewN kB _) _)⟩
        · have HN := Lib.hid (show riseTo xs 100 10000 (0 + 1) = true by rw [riseTo, HK.out, show stepB xs 100 10000 0 = true from k1']; rfl)
          go_wp2
          go_quiet ((first
              | (go_at_call 44; first | with_reducible exact quiet_add_left (l00In_v k1' _) | with_reducible exact quiet_left (l00In_v k1' _))))
          go_wp2
          go_roundw
          case rel => exact ⟨0 + 1, by omega, by go_num, HN, _, rfl⟩
          case measure => simp [intOf]; omega
      · have c0 := hc j (by omega)
        have c1' : W.cell? ⟨b, off + j + 1, none⟩ = some (.int .i64 (nth xs (j + 1))) := by rw [Nat.add_assoc]; exact c1
        have i0 : (j : Int) < xs.length := by omega
        have i2 : (j : Int) + 1 < xs.length := by omega
        clear hc hr1
        cases k1' : inB (nth xs (j + 1)) 100 10000
        · have HR := Lib.hid (show risesB xs 100 10000 = false from riseTo_false (show stepB xs 100 10000 (j + 1) = false by rw [stepB, k1']; rfl) xs.length hlt)
          go_wp2
          go_quiet ((first
              | (go_at_call 44; first | with_reducible exact quiet_add_left (l00In_v k1' _) | with_reducible exact quiet_left (l00In_v k1' _))))
          go_wp2
          go_returns
          exact ⟨by rw [HF.out, HR.out]; rfl, (by first | exact bdrewN kB _ | exact bdrewN (bdrewN kB _) _)⟩
        · cases k2' : decide (nth xs (j + 1) ≤ nth xs j)
          · have HN := Lib.hid (show riseTo xs 100 10000 (j + 1 + 1) = true by rw [riseTo, HK.out, stepB, k1', k2']; rfl)
            go_wp2
            go_quiet ((first
                | (go_at_call 44; first | with_reducible exact quiet_add_left (l00In_v k1' _) | with_reducible exact quiet_left (l00In_v k1' _))))
            go_wp2
            go_roundw
            case rel => exact ⟨j + 1 + 1, by omega, by go_num, HN, _, rfl⟩
            case measure => simp [intOf]; omega
          · have HR := Lib.hid (show risesB xs 100 10000 = false from riseTo_false (show stepB xs 100 10000 (j + 1) = false by rw [stepB, k1', k2']; rfl) xs.length hlt)
            go_wp2
            go_quiet ((first
                | (go_at_call 44; first | with_reducible exact quiet_add_left (l00In_v k1' _) | with_reducible exact quiet_left (l00In_v k1' _))))
            go_wp2
            go_returns
            exact ⟨by rw [HF.out, HR.out]; rfl, (by first | exact bdrewN kB _ | exact bdrewN (bdrewN kB _) _)⟩
    · obtain rfl : k = xs.length := by omega
      have HF2 := Lib.hid (show fGear p m l f v xs = gearI p m l f v xs xs.length 0 by rw [HF.out, show risesB xs 100 10000 = true from HK.out]; rfl)
      have HAT := Lib.hid (fun j (hj : j < xs.length) => rise_at HK.out hj)
      clear HF HK
      obtain ⟨wo, rfl⟩ : ∃ wo : World, wo = W := ⟨_, rfl⟩
      go_wp2
      go_loopw [11] (fun x wr => ∃ q k : Nat, k + q = xs.length ∧ x = .int .i64 k ∧ Hid (gearI p m l f v xs q k = gearI p m l f v xs xs.length 0) ∧ ∃ n, wr = wo.drewN n) (fun x _ => xs.length - (intOf x).toNat)
      case atStart => exact ⟨xs.length, 0, by omega, rfl, Lib.hid rfl, (by first | exact ⟨_, rfl⟩ | exact ⟨_, World.drewN_drewN _ _ _⟩ | exact ⟨0, rfl⟩)⟩
      case round =>
        obtain ⟨q, k, hk2, rfl, HK, n2, rfl⟩ := hrel
        by_cases hlt2 : k < xs.length
        · obtain ⟨q, rfl⟩ : ∃ q', q = q' + 1 := ⟨q - 1, by omega⟩
          obtain ⟨g0, g1⟩ := HAT.out k hlt2
          obtain ⟨b, off, rfl, hbb, hc⟩ := hr1.at_ hlt2
          have i1 : (k : Int) < xs.length := by omega
          obtain ⟨F0, F1⟩ := gearF_bd f0 f1 g0
          obtain ⟨⟨V2, V3⟩, V0, V1⟩ := gearV_bd (g := nth xs k) v0 v1 (by omega) g1
          have eF : divR (1000 * f) (nth xs k) = gearF f (nth xs k) := rfl
          have eV : divR (v * nth xs k) 1000 = gearV v (nth xs k) := rfl
          cases hh : hitB p m l f v (nth xs k)
          · have HN := Lib.hid (gearI_on (n := q) hh)
            simp only [hitB] at hh
            cases h1 : canB p m l (gearF f (nth xs k)) (gearV v (nth xs k)) <;> cases h2 : inB (gearV v (nth xs k)) 0 20000 <;> cases h3 : inB (gearF f (nth xs k)) (-1000000) 1000000
            case true.true.true => simp [h1, h2, h3] at hh
            all_goals
              clear hh
              go_wp2_with
                (first
                  | (go_at_call 68; go_call (l01Div_c); rintro e w' ⟨rfl, rfl⟩)
                  | (go_at_call 52; go_call (l10NeedW_c p m l _ _ p0 l0 l1 F0 F1 V0 V1); rintro e w' ⟨rfl, nq, rfl⟩)
                  | (go_at_call 51; go_call (l10Force_c _ _); rintro e w' ⟨rfl, rfl⟩)
                  | (go_at_call 67; go_call (l10Speed_c _ _); rintro e w' ⟨rfl, rfl⟩))
              go_roundw
              case rel => exact ⟨q, k + 1, by omega, by go_num, Lib.hid (HN.out.symm.trans HK.out), (by first | exact ⟨_, rfl⟩ | exact ⟨_, World.drewN_drewN _ _ _⟩ | exact ⟨0, rfl⟩)⟩
              case measure => simp [intOf]; omega
          · have HN := Lib.hid (gearI_hit (n := q) hh)
            simp only [hitB, Bool.and_eq_true] at hh
            obtain ⟨⟨h1, h2⟩, h3⟩ := hh
            go_wp2_with
              (first
                | (go_at_call 68; go_call (l01Div_c); rintro e w' ⟨rfl, rfl⟩)
                | (go_at_call 52; go_call (l10NeedW_c p m l _ _ p0 l0 l1 F0 F1 V0 V1); rintro e w' ⟨rfl, nq, rfl⟩)
                | (go_at_call 51; go_call (l10Force_c _ _); rintro e w' ⟨rfl, rfl⟩)
                | (go_at_call 67; go_call (l10Speed_c _ _); rintro e w' ⟨rfl, rfl⟩))
            go_returns
            exact ⟨by rw [HF2.out, ← HK.out, HN.out]; rfl, (by first | exact bdrewN kB _ | exact bdrewN (bdrewN kB _) _)⟩
        · obtain rfl : q = 0 := by omega
          go_wp2
          go_returns
          exact ⟨by rw [HF2.out, ← HK.out]; rfl, (by first | exact bdrewN kB _ | exact bdrewN (bdrewN kB _) _)⟩
set_option maxHeartbeats 1000000 in
theorem specGearFor_c (p m l f v : Int) (A : Option Addr) (c : Nat) (xs : List Int) (hn : xs.length ≤ 1048576) (w : World) (hr : RowI w A xs) : Calls Try.prog 34 #[.agg #[.int .i64 p, .int .i64 m, .int .i64 l], .slice A xs.length c, .int .i64 f, .int .i64 v] w fun e w' => e = .returned (.tuple #[.int .i64 (fGear p m l f v xs).1, .int .i64 (fGear p m l f v xs).2]) ∧ Below w.heap.size w w' := by
  cases hok : motorOk p m l
  · go_enter Try.func34, Try.ntmps34
    go_wp2_with
      (first
        | (go_at_call 50; go_call (l10Ok_c p m l); rintro e w' ⟨rfl, rfl⟩))
    go_returns
    refine ⟨by simp [fGear, hok], ?_⟩
    repeat' (first
      | (with_reducible exact Below.refl _ _)
      | (with_reducible assumption)
      | (with_reducible refine Below.alloc ?_ ?_ _)
      | (with_reducible refine Below.drew ?_)
      | (with_reducible refine bdrewN ?_ _)
      | (with_reducible refine Below.setCell ?_ ?_ _)
      | (with_reducible refine bthen (by assumption) ?_ ?_)
      | go_size)
  · by_cases hb : gearB f v xs = true
    · exact specGearFor_t p m l f v A c xs hn hok hb w hr
    · have HF := Lib.hid (show fGear p m l f v xs = (0, 2) by simp [fGear, hok, Bool.eq_false_iff.2 hb])
      have hb' := Bool.eq_false_iff.2 hb
      simp only [gearB] at hb'
      by_cases n0 : 1 ≤ (xs.length : Int) <;> by_cases n1 : (xs.length : Int) ≤ 6 <;> cases hf : inB f (-1000000) 1000000 <;> cases hv : inB v 0 20000
      all_goals try (exfalso; simp [n0, n1, hf, hv] at hb'; done)
      all_goals
        clear hb hb'
        go_enter Try.func34, Try.ntmps34
        go_wp2_with
          (first
            | (go_at_call 50; go_call (l10Ok_c p m l); rintro e w' ⟨rfl, rfl⟩)
            | (go_at_call 51; go_call (l10Force_c _ _); rintro e w' ⟨rfl, rfl⟩)
            | (go_at_call 67; go_call (l10Speed_c _ _); rintro e w' ⟨rfl, rfl⟩))
        go_returns
        refine ⟨by rw [HF.out]; rfl, ?_⟩
        repeat' (first
          | (with_reducible exact Below.refl _ _)
          | (with_reducible assumption)
          | (with_reducible refine Below.alloc ?_ ?_ _)
          | (with_reducible refine Below.drew ?_)
          | (with_reducible refine bdrewN ?_ _)
          | (with_reducible refine Below.setCell ?_ ?_ _)
          | (with_reducible refine bthen (by assumption) ?_ ?_)
          | go_size)
end Go.Proofs.Ytgnanppgbkngnaa
