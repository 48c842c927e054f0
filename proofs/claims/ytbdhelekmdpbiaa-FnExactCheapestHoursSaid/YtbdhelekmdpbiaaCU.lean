/- symMergeCmpFunc: the long case, and the whole by induction. -/
import Derived.Test.YtbdhelekmdpbiaaCN
import Derived.Deep.CutRange
namespace Go.Proofs.Ytbdhelekmdpbiaa
open Go.ChangeShapes Go.WideShapes Go.ChangeAt Go.RowKit
set_option linter.unusedVariables false
set_option linter.unusedSimpArgs false

/-- Two neighbouring runs in order, the left one's things earlier. -/
def SymH (n a m b : Nat) (ps xs : List Int) : Prop := xs.length = n ∧ (∀ i, i < n → 0 ≤ nth xs i ∧ nth xs i < n) ∧ Seg (pr ps) (nth xs) a m ∧ Seg (pr ps) (nth xs) m b ∧ Bef (nth xs) a m b
/-- What the merging leaves. -/
def SymR (g n c a b B : Nat) (ps xs : List Int) (w : World) (e : Ending) (w' : World) : Prop := e = .returned (.tuple #[]) ∧ ∃ ys : List Int, ys.length = n ∧ PI a b (nth xs) (nth ys) ∧ Seg (pr ps) (nth ys) a b ∧ OwnI 3 w' B (.slice (some ⟨g, 0, none⟩) n c) ys ∧ Below B w w'
theorem PI.range {a b n : Nat} {f g : Nat → Int} {P : Int → Prop} (h : PI a b f g) (hb : b ≤ n) (hf : ∀ i, i < n → P (f i)) : ∀ i, i < n → P (g i) := fun i hi => by
  by_cases k : a ≤ i ∧ i < b
  · obtain ⟨j, j1, j2, e⟩ := h.2.1 i k.1 k.2
    rw [e]
    exact hf j (by omega)
  · rw [h.1 i (by omega)]
    exact hf i hi
theorem SymH.keep {n a M e b : Nat} {ps zs ys : List Int} (H : SymH n M e b ps zs) (hMe : M ≤ e) (hl : ys.length = n) (hM : M ≤ n) (h : PI a M (nth zs) (nth ys)) : SymH n M e b ps ys := by
  obtain ⟨h1, h2, h3, h4, h5⟩ := H
  have q : ∀ i, M ≤ i → nth ys i = nth zs i := fun i hi => h.1 i (.inr hi)
  refine ⟨hl, h.range (P := fun v => 0 ≤ v ∧ v < n) hM h2, fun i j k1 k2 k3 => ?_, fun i j k1 k2 k3 => ?_, fun i j k1 k2 k3 k4 => ?_⟩
  · rw [q i k1, q j (by omega)]
    exact h3 i j k1 k2 k3
  · rw [q i (by omega), q j (by omega)]
    exact h4 i j k1 k2 k3
  · rw [q i k1, q j (by omega)]
    exact h5 i j k1 k2 k3 k4
theorem SymH.split {n a m b s M e : Nat} {ps xs zs : List Int} (H : SymH n a m b ps xs) (hbn : b ≤ n) (hz : zs.length = n) (ka : a ≤ s) (sm : s ≤ m) (me : m ≤ e) (eb : e ≤ b) (he : e + s = M + m) (sM : s ≤ M) (Me : M ≤ e)
    (hA : s = a ∨ e = b ∨ lx (pr ps) (nth xs (s - 1)) (nth xs e)) (hB : s = m ∨ e = m ∨ lx (pr ps) (nth xs (e - 1)) (nth xs s)) (hr : Rot s m e (nth xs) (nth zs)) :
    SymH n a s M ps zs ∧ SymH n M e b ps zs ∧ (∀ i j, a ≤ i → i < M → M ≤ j → j < b → lx (pr ps) (nth zs i) (nth zs j)) ∧ PI a b (nth xs) (nth zs) := by
  obtain ⟨h1, h2, h3, h4, h5⟩ := H
  obtain ⟨q1, q2, q3, q4, q5, q6, q7⟩ := sym_split h3 h4 h5 ka sm me eb he sM Me hA hB hr
  have hpi := (hr.pi sm me).wide ka eb
  exact ⟨⟨hz, hpi.range (P := fun v => 0 ≤ v ∧ v < n) hbn h2, q1, q2, q5⟩, ⟨hz, hpi.range (P := fun v => 0 ≤ v ∧ v < n) hbn h2, q3, q4, q6⟩, q7, hpi⟩
theorem rot_none {s m e : Nat} {f : Nat → Int} (h : ¬ (s < m ∧ m < e)) (h1 : s ≤ m) (h2 : m ≤ e) : Rot s m e f f := by
  refine ⟨fun _ _ => rfl, fun t ht => ?_, fun t ht => ?_⟩
  · rw [show m = s by omega]
  · rw [show s + (e - m) + t = s + t by omega]
theorem SymH.left {n a s M : Nat} {ps zs : List Int} (H : SymH n a s M ps zs) (h : ¬ (a < s ∧ s < M)) (h1 : a ≤ s) (h2 : s ≤ M) : Seg (pr ps) (nth zs) a M := by
  obtain ⟨_, _, h3, h4, _⟩ := H
  by_cases e : s = a
  · rw [← e]; exact h4
  · rw [show M = s by omega]; exact h3
set_option maxRecDepth 100000 in
set_option maxHeartbeats 4000000 in
theorem sym3_c (g n c : Nat) (xs : List Int) (a m b : Nat) (ham : a + 1 < m) (hmb : m + 1 < b) (hbn : b ≤ n) (B d : Nat) (ps : List Int) (hps : ps.length = n) (hn : n ≤ 1000)
    (ih : ∀ (a' m' b' : Nat) (xs' : List Int) (w' : World), b' - a' < b - a → a' < m' → m' < b' → b' ≤ n → SymH n a' m' b' ps xs' → PC w' B d ps → OwnI 3 w' B (.slice (some ⟨g, 0, none⟩) n c) xs' → Calls Try.prog 25 #[.slice (some ⟨g, 0, none⟩) n c, .int .i64 a', .int .i64 m', .int .i64 b', .func (.func 19) #[] #[.pointer (some ⟨d, 0, none⟩)]] w' (SymR g n c a' b' B ps xs' w'))
    (w : World) (hP : PC w B d ps) (H : SymH n a m b ps xs) (h : OwnI 3 w B (.slice (some ⟨g, 0, none⟩) n c) xs) : Calls Try.prog 25 #[.slice (some ⟨g, 0, none⟩) n c, .int .i64 a, .int .i64 m, .int .i64 b, .func (.func 19) #[] #[.pointer (some ⟨d, 0, none⟩)]] w (SymR g n c a b B ps xs w) := by
  have HH := Lib.hid h
  have HP := Lib.hid hP
  have HS := Lib.hid H
  have IH := Lib.hid ih
  clear h hP H ih
  have e0 : ¬ (m : Int) - (a : Int) = 1 := by omega
  have e0b : (((m : Int) - (a : Int)) == 1) = false := by simp; omega
  have e1 : ¬ (b : Int) - (m : Int) = 1 := by omega
  have e1b : (((b : Int) - (m : Int)) == 1) = false := by simp; omega
  obtain ⟨M, hM, M1, M2, M3⟩ : ∃ M : Nat, ((a : Int) + (b : Int)) / 2 = (M : Int) ∧ 2 * M ≤ a + b ∧ a + b ≤ 2 * M + 1 ∧ M < b := ⟨(a + b) / 2, by omega, by omega, by omega, by omega⟩
  obtain ⟨N, hN, N1⟩ : ∃ N : Nat, (M : Int) + (m : Int) = (N : Int) ∧ Hid (N = M + m) := ⟨M + m, by omega, Lib.hid rfl⟩
  have hlen : Hid (xs.length = n) := Lib.hid HS.out.1
  go_enter Try.func25, Try.ntmps25
  go_upto_if 140 with fail
  go_cut [20, 21] from 138 to 146 (fun u v wx => ∃ s0 r0 : Nat, u = .int .i64 s0 ∧ v = .int .i64 r0 ∧ Hid (a ≤ s0 ∧ s0 ≤ r0 ∧ r0 ≤ M ∧ r0 ≤ m ∧ N ≤ s0 + b ∧ (s0 = a ∨ N = s0 + b) ∧ (r0 = m ∨ r0 = M)) ∧ w = wx)
  case first =>
    rcases Nat.lt_or_ge M m with hMm | hMm
    · have t1 : (M : Int) < (m : Int) := by omega
      obtain ⟨s0, hs0, S0⟩ : ∃ s0 : Nat, (N : Int) - (b : Int) = (s0 : Int) ∧ Hid (N = s0 + b) := by
        have := N1.out
        exact ⟨N - b, by omega, Lib.hid (by omega)⟩
      go_wp2
      go_meet
      case rel =>
        have N2 := N1.out
        have S2 := S0.out
        exact ⟨s0, M, rfl, rfl, Lib.hid (by omega), rfl⟩
    · have t1 : ¬ (M : Int) < (m : Int) := by omega
      go_wp2
      go_meet
      case rel =>
        have N2 := N1.out
        exact ⟨a, m, rfl, rfl, Lib.hid (by omega), rfl⟩
  case rest =>
    obtain ⟨s0, r0, rfl, rfl, HF, rfl⟩ := hcut
    obtain ⟨P, hP1, P1⟩ : ∃ P : Nat, (N : Int) - 1 = (P : Int) ∧ Hid (N = P + 1) := by
      have := N1.out
      exact ⟨N - 1, by omega, Lib.hid (by omega)⟩
    go_wp2
    go_loopw [20, 21] (fun u v wr => ∃ (i j q : Nat), s0 ≤ i ∧ i ≤ j ∧ j ≤ r0 ∧ u = .int .i64 i ∧ v = .int .i64 j ∧ Hid (i = s0 ∨ lx (pr ps) (nth xs (i - 1)) (nth xs (N - i))) ∧ Hid (j = r0 ∨ lx (pr ps) (nth xs (N - 1 - j)) (nth xs j)) ∧ wr = w.drewN q) (fun u v _ => (intOf v).toNat - (intOf u).toNat)
    case atStart => exact ⟨s0, r0, 0, Nat.le_refl _, HF.out.2.1, Nat.le_refl _, rfl, rfl, Lib.hid (.inl rfl), Lib.hid (.inl rfl), rfl⟩
    case round =>
      obtain ⟨i, j, q, h1, h2, h3, rfl, rfl, HL, HR, rfl⟩ := hrel
      obtain ⟨F1, F2, F3, F4, F5, F6, F7⟩ := HF.out
      have N2 := N1.out
      have P2 := P1.out
      by_cases hlt : i < j
      · have i1 : (i : Int) < j := by omega
        go_upto_region 35 with fail
        obtain ⟨x, hx, x1, x2⟩ : ∃ x : Nat, ((i : Int) + (j : Int)) / 2 = x ∧ i ≤ x ∧ x < j := ⟨(i + j) / 2, by omega, by omega, by omega⟩
        simp only [hx]
        obtain ⟨z, hz, z1, z2⟩ : ∃ z : Nat, (P : Int) - (x : Int) = z ∧ N - 1 - x = z ∧ N - (x + 1) = z := ⟨P - x, by omega, by omega, by omega⟩
        have zn : z < n := by omega
        have xn0 : x < n := by omega
        have zr : m ≤ z ∧ z < b := by omega
        have xr : a ≤ x ∧ x < m := by omega
        obtain ⟨_, hcl⟩ := HH.out.row
        obtain ⟨g', off', e2, hgl, cx⟩ := hcl.at_ (show x < xs.length by have := hlen.out; omega)
        obtain ⟨g'', off'', e3, _, cz⟩ := hcl.at_ (show z < xs.length by have := hlen.out; omega)
        simp only [Option.some.injEq, Addr.mk.injEq, and_true] at e2 e3
        obtain ⟨rfl, rfl⟩ := e2
        obtain ⟨rfl, rfl⟩ := e3
        rw [Nat.zero_add] at cx cz
        have xn : (x : Int) < n := by omega
        have zn' : (z : Int) < n := by omega
        obtain ⟨u0, u1⟩ := HS.out.2.1 x (by omega)
        obtain ⟨v0, v1⟩ := HS.out.2.1 z (by omega)
        have hlt2 := HS.out.2.2.2.2 x z (by omega) (by omega) (by omega) (by omega)
        obtain ⟨u, hu⟩ : ∃ y : Nat, nth xs x = y := ⟨(nth xs x).toNat, by omega⟩
        obtain ⟨v, hv⟩ : ∃ y : Nat, nth xs z = y := ⟨(nth xs z).toNat, by omega⟩
        have hpu : pr ps (nth xs x) = nth ps u := by rw [hu]; simp [pr]
        have hpv : pr ps (nth xs z) = nth ps v := by rw [hv]; simp [pr]
        have hun : u < n := by omega
        have hvn : v < n := by omega
        rw [hu] at cx
        rw [hv] at cz
        clear F1 F2 F3 F4 F5 F6 F7 N2 P2 zr xr hcl
        by_cases hd : nth ps v < nth ps u
        · have hcv := Lib.hid (cmpV_lt hd)
          have HR2 := Lib.hid (show x = r0 ∨ lx (pr ps) (nth xs (N - 1 - x)) (nth xs x) from .inr (.inl (by rw [z1, hpu, hpv]; exact hd)))
          clear hu hv hpu hpv u0 u1 v0 v1 hlt2 z1 z2
          go_quiet ((first
              | (go_at_call 19; exact Calls.quiet_of (cmp2_v hcv.out (by omega) (by omega) HP.out _))
              | (go_at_call 19; exact quiet_add (cmp2_v hcv.out (by omega) (by omega) HP.out _))))
          go_wp2
          go_roundw
          case rel => exact ⟨i, x, _, h1, by omega, by omega, rfl, by go_num, HL, HR2, (by first | rfl | exact World.drewN_drewN _ _ _)⟩
          case measure => simp [intOf]; omega
        · have hcv := cmpV_ge hd
          obtain ⟨r, hr⟩ : ∃ r, cmpV (nth ps v) (nth ps u) = r := ⟨_, rfl⟩
          rw [hr] at hcv
          have hrd : decide (r < 0) = false := by simp; omega
          have HR1 := Lib.hid hr
          have HL2 := Lib.hid (show x + 1 = s0 ∨ lx (pr ps) (nth xs (x + 1 - 1)) (nth xs (N - (x + 1))) from .inr (by
            rw [z2, Nat.add_sub_cancel]
            unfold lx
            rw [hpu, hpv]
            omega))
          clear hu hv hpu hpv u0 u1 v0 v1 hlt2 hr z1 z2
          go_quiet ((first
              | (go_at_call 19; exact Calls.quiet_of (cmp2_v HR1.out (by omega) (by omega) HP.out _))
              | (go_at_call 19; exact quiet_add (cmp2_v HR1.out (by omega) (by omega) HP.out _))))
          go_wp2
          go_roundw
          case rel => exact ⟨x + 1, j, _, by omega, by omega, h3, by go_num, rfl, HL2, HR, (by first | rfl | exact World.drewN_drewN _ _ _)⟩
          case measure => simp [intOf]; omega
      · obtain rfl : i = j := by omega
        have e5 : ¬ (i : Int) < i := by omega
        obtain ⟨e, he, E1, E2⟩ : ∃ e : Nat, (N : Int) - (i : Int) = (e : Int) ∧ N - i = e ∧ N - 1 - i = e - 1 := ⟨N - i, by omega, rfl, by omega⟩
        have hA : i = a ∨ e = b ∨ lx (pr ps) (nth xs (i - 1)) (nth xs e) := by
          rcases HL.out with q1 | q1
          · rcases F6 with q2 | q2
            · exact .inl (by omega)
            · exact .inr (.inl (by omega))
          · exact .inr (.inr (by rw [← E1]; exact q1))
        have hB : i = m ∨ e = m ∨ lx (pr ps) (nth xs (e - 1)) (nth xs i) := by
          rcases HR.out with q1 | q1
          · rcases F7 with q2 | q2
            · exact .inl (by omega)
            · exact .inr (.inl (by omega))
          · exact .inr (.inr (by rw [← E2]; exact q1))
        have HSP := Lib.hid (fun (zs : List Int) (hz : zs.length = n) (hr : Rot i m e (nth xs) (nth zs)) => HS.out.split hbn hz (show a ≤ i by omega) (show i ≤ m by omega) (show m ≤ e by omega) (show e ≤ b by omega) (show e + i = M + m by omega) (show i ≤ M by omega) (show M ≤ e by omega) hA hB hr)
        have k1 : a ≤ i := by omega
        have k2 : i ≤ m := by omega
        have k3 : m ≤ e := by omega
        have k4 : e ≤ b := by omega
        have k5 : i ≤ M := by omega
        have k6 : M ≤ e := by omega
        have HE := Lib.hid (show e + i = M + m by omega)
        have HNN := Lib.hid (show a < M by omega)
        clear hA hB HL HR E1 E2 F1 F2 F3 F4 F5 F6 F7 N2 P2 h1 h2 h3
        go_upto_region 39 with fail
        go_cut [185] from 178 to 185 (fun u wx => u = .bool (decide (i < m ∧ m < e)) ∧ w.drewN q = wx)
        case first => as_aux_lemma =>
          by_cases q1 : i < m
          · have q1' : (i : Int) < m := by omega
            by_cases q2 : m < e
            · have q2' : (m : Int) < e := by omega
              go_wp2
              go_meet
              case rel => exact ⟨by simp [q1, q2], rfl⟩
            · have q2' : ¬ (m : Int) < e := by omega
              go_wp2
              go_meet
              case rel => exact ⟨by simp [q1, q2], rfl⟩
          · have q1' : ¬ (i : Int) < m := by omega
            go_wp2
            go_meet
            case rel => exact ⟨by simp [q1], rfl⟩
        case rest => as_aux_lemma =>
          obtain ⟨rfl, rfl⟩ := hcut
          go_upto_if 185 with fail
          go_cut [] from 178 to 191 (fun wx => ∃ zs : List Int, zs.length = n ∧ Hid (Rot i m e (nth xs) (nth zs)) ∧ Hid (OwnI 3 wx B (.slice (some ⟨g, 0, none⟩) n c) zs) ∧ Below B w wx)
          case first => as_aux_lemma =>
            by_cases q1 : i < m ∧ m < e
            · have q2 : decide (i < m ∧ m < e) = true := by simpa using q1
              go_wp2_with (go_at_call 26; (with_reducible refine (rotate_c g n c xs hlen.out hn i m e _ q1.1 q1.2 (by omega) B _ (HH.out.drewN _)).mono ?_); rintro ex w1 ⟨rfl, zs, hzl, hro, hO1, hB1⟩; have HRO := Lib.hid hro; have HO1 := Lib.hid hO1; have HB1 := Lib.hid hB1; clear hro hO1 hB1)
              go_meet
              case rel => exact ⟨zs, hzl, HRO, HO1, (bdrewN (Below.refl _ _) _).trans HB1.out⟩
            · have q2 : decide (i < m ∧ m < e) = false := by simpa using q1
              go_wp2
              go_meet
              case rel => exact ⟨xs, hlen.out, Lib.hid (rot_none q1 k2 k3), Lib.hid (HH.out.drewN _), bdrewN (Below.refl _ _) _⟩
          case rest => as_aux_lemma =>
            obtain ⟨zs, hzl, HRO, HO1, HB1⟩ := hcut
            obtain ⟨y1, y2, y3, y4⟩ := HSP.out zs hzl HRO.out
            have Y1 := Lib.hid y1
            have Y2 := Lib.hid y2
            have Y3 := Lib.hid y3
            have Y4 := Lib.hid y4
            have HP1 := Lib.hid (HP.out.below HB1)
            clear y1 y2 y3 y4 HSP HRO
            go_upto_region 41 with fail
            go_cut [199] from 192 to 199 (fun u wx => u = .bool (decide (a < i ∧ i < M)) ∧ wc = wx)
            case first => as_aux_lemma =>
              by_cases q1 : a < i
              · have q1' : (a : Int) < i := by omega
                by_cases q2 : i < M
                · have q2' : (i : Int) < M := by omega
                  go_wp2
                  go_meet
                  case rel => exact ⟨by simp [q1, q2], rfl⟩
                · have q2' : ¬ (i : Int) < M := by omega
                  go_wp2
                  go_meet
                  case rel => exact ⟨by simp [q1, q2], rfl⟩
              · have q1' : ¬ (a : Int) < i := by omega
                go_wp2
                go_meet
                case rel => exact ⟨by simp [q1], rfl⟩
            case rest => as_aux_lemma =>
              obtain ⟨rfl, rfl⟩ := hcut
              go_upto_if 199 with fail
              go_cut [] from 192 to 205 (fun wx => ∃ z2 : List Int, z2.length = n ∧ Hid (PI a M (nth zs) (nth z2)) ∧ Hid (Seg (pr ps) (nth z2) a M) ∧ Hid (OwnI 3 wx B (.slice (some ⟨g, 0, none⟩) n c) z2) ∧ Below B w wx)
              case first => as_aux_lemma =>
                by_cases q1 : a < i ∧ i < M
                · have q2 : decide (a < i ∧ i < M) = true := by simpa using q1
                  go_wp2_with (go_at_call 25; (with_reducible refine (IH.out a i M zs _ (by omega) q1.1 q1.2 (by omega) Y1.out HP1.out HO1.out).mono ?_); rintro ex w2 ⟨rfl, z2, hzl2, hpi, hsg, hO2, hB2⟩; have HPI := Lib.hid hpi; have HSG := Lib.hid hsg; have HO2 := Lib.hid hO2; have HB2 := Lib.hid (HB1.trans hB2); clear hpi hsg hO2 hB2)
                  go_meet
                  case rel => exact ⟨z2, hzl2, HPI, HSG, HO2, HB2.out⟩
                · have q2 : decide (a < i ∧ i < M) = false := by simpa using q1
                  go_wp2
                  go_meet
                  case rel => exact ⟨zs, hzl, Lib.hid (PI.refl _ _ _), Lib.hid (Y1.out.left q1 k1 k5), HO1, HB1⟩
              case rest => as_aux_lemma =>
                obtain ⟨z2, hzl2, HPI, HSG, HO2, HB2⟩ := hcut
                have Y5 := Lib.hid (Y2.out.keep k6 hzl2 (by omega) HPI.out)
                have HP2 := Lib.hid (HP.out.below HB2)
                clear HP1 HO1 HB1
                go_upto_region 43 with fail
                go_cut [213] from 206 to 213 (fun u wx => u = .bool (decide (M < e ∧ e < b)) ∧ wc = wx)
                case first => as_aux_lemma =>
                  by_cases q1 : M < e
                  · have q1' : (M : Int) < e := by omega
                    by_cases q2 : e < b
                    · have q2' : (e : Int) < b := by omega
                      go_wp2
                      go_meet
                      case rel => exact ⟨by simp [q1, q2], rfl⟩
                    · have q2' : ¬ (e : Int) < b := by omega
                      go_wp2
                      go_meet
                      case rel => exact ⟨by simp [q1, q2], rfl⟩
                  · have q1' : ¬ (M : Int) < e := by omega
                    go_wp2
                    go_meet
                    case rel => exact ⟨by simp [q1], rfl⟩
                case rest => as_aux_lemma =>
                  obtain ⟨rfl, rfl⟩ := hcut
                  by_cases q1 : M < e ∧ e < b
                  · have q2 : decide (M < e ∧ e < b) = true := by simpa using q1
                    go_wp2_with (go_at_call 25; (with_reducible refine (IH.out M e b z2 _ (by have := HNN.out; omega) q1.1 q1.2 hbn Y5.out HP2.out HO2.out).mono ?_); rintro ex w3 ⟨rfl, z3, hzl3, hpi, hsg, hO3, hB3⟩; have HPI3 := Lib.hid hpi; have HSG3 := Lib.hid hsg; have HO3 := Lib.hid hO3; have HB3 := Lib.hid (HB2.trans hB3); clear hpi hsg hO3 hB3)
                    go_returns
                    obtain ⟨r1, r2⟩ := sym_join Y3.out (by omega) (by omega) HPI.out HSG.out HPI3.out HSG3.out
                    exact ⟨by simp, z3, hzl3, Y4.out.trans r2, r1, HO3.out, HB3.out⟩
                  · have q2 : decide (M < e ∧ e < b) = false := by simpa using q1
                    go_wp2
                    go_returns
                    obtain ⟨r1, r2⟩ := sym_join Y3.out (by omega) (by omega) HPI.out HSG.out (PI.refl M b _) (Y5.out.left q1 k6 k4)
                    exact ⟨by simp, z2, hzl2, Y4.out.trans r2, r1, HO2.out, HB2⟩
theorem sym_c (g n c B d : Nat) (ps : List Int) (hps : ps.length = n) (hn : n ≤ 1000) : ∀ (k a m b : Nat) (xs : List Int) (w : World), b - a ≤ k → a < m → m < b → b ≤ n → SymH n a m b ps xs → PC w B d ps → OwnI 3 w B (.slice (some ⟨g, 0, none⟩) n c) xs → Calls Try.prog 25 #[.slice (some ⟨g, 0, none⟩) n c, .int .i64 a, .int .i64 m, .int .i64 b, .func (.func 19) #[] #[.pointer (some ⟨d, 0, none⟩)]] w (SymR g n c a b B ps xs w) := by
  intro k
  induction k with
  | zero => intro a m b xs w h1 h2 h3; omega
  | succ k ih =>
    intro a m b xs w h1 h2 h3 h4 H hP h
    by_cases hm : m = a + 1
    · subst hm
      exact sym1_c g n c xs H.1 a b h3 h4 B d ps hps hn w hP H.2.1 H.2.2.2.1 H.2.2.2.2 h
    · by_cases hb : b = m + 1
      · subst hb
        exact sym2_c g n c xs H.1 a m (by omega) h4 B d ps hps hn w hP H.2.1 H.2.2.1 H.2.2.2.2 h
      · exact sym3_c g n c xs a m b (by omega) (by omega) h4 B d ps hps hn (fun a' m' b' xs' w' q1 q2 q3 q4 q5 q6 q7 => ih a' m' b' xs' w' (by omega) q2 q3 q4 q5 q6 q7) w hP H h
end Go.Proofs.Ytbdhelekmdpbiaa
