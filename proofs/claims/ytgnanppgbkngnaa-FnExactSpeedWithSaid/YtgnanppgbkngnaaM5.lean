/- The greatest speed with a force. -/
import Derived.Test.YtgnanppgbkngnaaM2
import Derived.Test.YtgnanppgbkngnaaQ
namespace Go.Proofs.Ytgnanppgbkngnaa
open Go.ChangeShapes Go.WideShapes Go.ChangeAt Go.RowKit
set_option linter.unusedVariables false
set_option linter.unusedSimpArgs false

theorem workI_mono {f v v' : Int} (h0 : 0 ≤ f) (v0 : 0 ≤ v) (h : v ≤ v') : workI f v ≤ workI f v' := by
  unfold workI
  have h1 : 0 ≤ f * v := Int.mul_nonneg h0 v0
  have h2 : f * v ≤ f * v' := Int.mul_le_mul_of_nonneg_left h h0
  rw [Int.tdiv_eq_ediv_of_nonneg h1, Int.tdiv_eq_ediv_of_nonneg (by omega)]
  omega
theorem workI_neg {f v : Int} (h0 : f ≤ 0) (v0 : 0 ≤ v) : workI f v ≤ 0 := by
  unfold workI
  have h1 : 0 ≤ -f * v := Int.mul_nonneg (by omega) v0
  rw [Int.neg_mul] at h1
  have e : (f * v).tdiv 1000 = -((-(f * v)).tdiv 1000) := by rw [Int.neg_tdiv, Int.neg_neg]
  rw [e, Int.tdiv_eq_ediv_of_nonneg h1]
  have := Int.ediv_nonneg h1 (show (0 : Int) ≤ 1000 by omega)
  omega
theorem powerI_neg {l f v : Int} (l1 : l ≤ 500) (h : workI f v ≤ 0) : powerI l f v ≤ 0 := by
  unfold powerI
  rw [if_neg (by omega)]
  have h1 : 0 ≤ -workI f v * (1000 - l) := Int.mul_nonneg (by omega) (by omega)
  have := Int.ediv_nonneg h1 (show (0 : Int) ≤ 1000 by omega)
  omega
theorem powerI_mono {l f v v' : Int} (l0 : 0 ≤ l) (l1 : l ≤ 500) (h0 : 0 ≤ f) (v0 : 0 ≤ v) (h : v ≤ v') (k : 0 < workI f v) : powerI l f v ≤ powerI l f v' := by
  have hm := workI_mono h0 v0 h
  unfold powerI
  rw [if_pos k, if_pos (by omega)]
  exact Int.ediv_le_ediv (by omega) (by omega)
theorem canB_mono {p m l f v v' : Int} (p0 : 1000 ≤ p) (l0 : 0 ≤ l) (l1 : l ≤ 500) (v0 : 0 ≤ v) (h : v ≤ v') (k : canB p m l f v' = true) : canB p m l f v = true := by
  simp only [canB, Bool.and_eq_true, decide_eq_true_eq] at k ⊢
  refine ⟨k.1, ?_⟩
  by_cases hf : 0 ≤ f
  · by_cases hw : 0 < workI f v
    · have := powerI_mono l0 l1 hf v0 h hw
      omega
    · have := powerI_neg (l := l) l1 (show workI f v ≤ 0 by omega)
      omega
  · have := powerI_neg (l := l) l1 (workI_neg (f := f) (v := v) (by omega) v0)
    omega
theorem canB_zero {p m l f : Int} (p0 : 1000 ≤ p) (l1 : l ≤ 500) (h : f ≤ m) : canB p m l f 0 = true := by
  have hw : workI f 0 = 0 := by simp [workI]
  have := powerI_neg (l := l) (f := f) (v := 0) l1 (by omega)
  simp [canB]
  omega
def withI (p m l f : Int) : Int := greatF (fun v => canB p m l f v) 0 20000
def fWith (p m l f : Int) : Int × Int := if motorOk p m l then (if inB f (-1000000) 1000000 then (if m < f then (0, 6) else (withI p m l f, 0)) else (0, 2)) else (0, 1)
/-- What impl.least hands back where its function makes memory. -/
def LeastPostB (p : Int → Bool) (lo hi : Int) (w : World) (e : Ending) (w' : World) : Prop := ∃ r : Int, e = .returned (.int .i64 r) ∧ LeastAt p lo hi r ∧ Below w.heap.size w w'
theorem SpeedWith1_c (p m l f v : Int) (l0 : 0 ≤ l) (l1 : l ≤ 500) (hf : inB f (-1000000) 1000000 = true) (v0 : 0 ≤ v) (v1 : v ≤ 20000) (b d : Nat) (w : World) (h0 : w.cell? ⟨b, 0, none⟩ = some (.int .i64 p)) (h1 : w.cell? ⟨b, 1, none⟩ = some (.int .i64 m)) (h2 : w.cell? ⟨b, 2, none⟩ = some (.int .i64 l)) (h3 : w.cell? ⟨d, 0, none⟩ = some (.int .i64 f)) : Calls Try.prog 56 #[.int .i64 v, .pointer (some ⟨b, 0, none⟩), .pointer (some ⟨d, 0, none⟩)] w fun e w' => e = .returned (.bool (!canB p m l f v)) ∧ Below w.heap.size w w' := by
  have hv : inB v 0 20000 = true := inB_of v0 v1
  go_enter Try.func56, Try.ntmps56
  go_wp2_with
    (first
      | (go_at_call 57; go_call (canDo_c p m l f v l0 l1 hf hv _); rintro e w' ⟨rfl, hb⟩; obtain ⟨qc, qf, qz, qs⟩ := bfacts hb; (try simp only [World.size_alloc, World.size_setCell, World.size_drew, World.heap_drewN] at qs)))
  go_ret
  refine ⟨rfl, ?_⟩
  repeat' (first
    | (with_reducible exact Below.refl _ _)
    | (with_reducible assumption)
    | (with_reducible refine Below.alloc ?_ ?_ _)
    | (with_reducible refine Below.drew ?_)
    | (with_reducible refine bdrewN ?_ _)
    | (with_reducible refine Below.setCell ?_ ?_ _)
    | (with_reducible refine bthen (by assumption) ?_ ?_)
    | go_size)
set_option maxHeartbeats 1000000 in
theorem leastWith_c (p m l f : Int) (p0 : 1000 ≤ p) (l0 : 0 ≤ l) (l1 : l ≤ 500) (hf : inB f (-1000000) 1000000 = true) (b d : Nat) (w : World) (hb : b < w.heap.size) (hd : d < w.heap.size) (h0 : w.cell? ⟨b, 0, none⟩ = some (.int .i64 p)) (h1 : w.cell? ⟨b, 1, none⟩ = some (.int .i64 m)) (h2 : w.cell? ⟨b, 2, none⟩ = some (.int .i64 l)) (h3 : w.cell? ⟨d, 0, none⟩ = some (.int .i64 f)) : Calls Try.prog 55 #[.int .i64 0, .int .i64 20000, .func (.func 56) #[] #[.pointer (some ⟨b, 0, none⟩), .pointer (some ⟨d, 0, none⟩)]] w (LeastPostB (fun v => !canB p m l f v) 0 20000 w) := by
  have HMO := Lib.hid (show ∀ v v', 0 ≤ v → v ≤ v' → canB p m l f v' = true → canB p m l f v = true from fun v v' hv h k => canB_mono p0 l0 l1 hv h k)
  go_enter Try.func55, Try.ntmps55
  go_wp2
  go_loopw [0, 7] (fun p' q wr => ∃ x z : Int, 0 ≤ x ∧ x ≤ z ∧ z ≤ 20001 ∧ Hid (∀ v, 0 ≤ v → v < x → canB p m l f v = true) ∧ Hid (z ≤ 20000 → canB p m l f z = false) ∧ p' = .int .i64 x ∧ q = .int .i64 z ∧ Below w.heap.size w wr) (fun p' q _ => (intOf q - intOf p').toNat)
  case atStart => exact ⟨0, 20001, by omega, by omega, by omega, Lib.hid (fun v _ _ => by omega), Lib.hid (fun _ => by omega), rfl, rfl, Below.refl _ _⟩
  case round =>
    obtain ⟨x, z, hx, hxz, hz, HX, HZ, rfl, rfl, hBr⟩ := hrel
    have k0 := (hBr.cell (p := ⟨b, 0, none⟩) hb).trans h0
    have k1 := (hBr.cell (p := ⟨b, 1, none⟩) hb).trans h1
    have k2 := (hBr.cell (p := ⟨b, 2, none⟩) hb).trans h2
    have k3 := (hBr.cell (p := ⟨d, 0, none⟩) hd).trans h3
    have hsr := hBr.size
    by_cases hlt : x < z
    · have m0 : 0 ≤ (x + z) / 2 := by omega
      have m1 : (x + z) / 2 ≤ 20000 := by omega
      have m2 : x ≤ (x + z) / 2 := by omega
      have m3 : (x + z) / 2 < z := by omega
      cases hm : canB p m l f ((x + z) / 2)
      ·
        go_wp2_with
          (first
            | (go_at_call 56; go_call (SpeedWith1_c p m l f _ l0 l1 hf m0 m1 b d _ k0 k1 k2 k3); rintro e w' ⟨rfl, hb'⟩))
        go_roundw
        case rel => exact ⟨x, (x + z) / 2, by omega, by omega, by omega, HX, Lib.hid (fun _ => hm), rfl, rfl, hBr.trans (hb'.mono hsr)⟩
        case measure => simp [intOf]; omega
      ·
        go_wp2_with
          (first
            | (go_at_call 56; go_call (SpeedWith1_c p m l f _ l0 l1 hf m0 m1 b d _ k0 k1 k2 k3); rintro e w' ⟨rfl, hb'⟩))
        go_roundw
        case rel => exact ⟨(x + z) / 2 + 1, z, by omega, by omega, by omega, Lib.hid (fun v hv1 hv2 => HMO.out v _ (by omega) (by omega) hm), HZ, rfl, rfl, hBr.trans (hb'.mono hsr)⟩
        case measure => simp [intOf]; omega
    · obtain rfl : x = z := by omega
      go_wp2
      go_ret
      exact ⟨x, rfl, ⟨hx, hz, fun v hv1 hv2 => by simp [HX.out v hv1 hv2], fun h => by simp [HZ.out h]⟩, hBr⟩
set_option maxHeartbeats 1000000 in
theorem implSpeedWith_c (p m l f : Int) (w : World) : Calls Try.prog 21 #[.agg #[.int .i64 p, .int .i64 m, .int .i64 l], .int .i64 f] w fun e w' => e = .returned (.tuple #[.int .i64 (fWith p m l f).1, .int .i64 (fWith p m l f).2]) ∧ Below w.heap.size w w' := by
  cases hok : motorOk p m l <;> cases hf : inB f (-1000000) 1000000
  rotate_left 3
  · obtain ⟨⟨p0, p1⟩, ⟨m0, m1⟩, ⟨l0, l1⟩⟩ := motorOk_true hok
    obtain ⟨f0, f1⟩ := inB_true hf
    by_cases hm : m < f
    · have HF := Lib.hid (show fWith p m l f = (0, 6) by simp only [fWith, hok, hf, if_true, if_pos hm])
      go_enter Try.func21, Try.ntmps21
      go_wp2
      go_region_held3 (fun w' => w'.cell? ⟨w.heap.size, 0, none⟩ = some (.int .i64 p) ∧ w'.cell? ⟨w.heap.size, 1, none⟩ = some (.int .i64 m) ∧ w'.cell? ⟨w.heap.size, 2, none⟩ = some (.int .i64 l) ∧ w'.cell? ⟨w.heap.size + 1, 0, none⟩ = some (.int .i64 f)) (simp [*, go_sem])
        (first
          | (go_at_call 54; go_call (isForce_v hf _); rintro e w' ⟨rfl, rfl⟩)
          | (go_at_call 53; go_call (motored_c _ _ _ _ _); rintro e w' ⟨rfl, hb⟩; obtain ⟨qc, qf, qz, qs⟩ := bfacts hb; (try simp only [World.size_alloc, World.size_setCell, World.size_drew, World.heap_drewN] at qs)))
      have z0 : w.heap.size < w'.heap.size := by omega
      have z1 : w.heap.size + 1 < w'.heap.size := by omega
      go_wp2
      go_returns
      refine ⟨by rw [HF.out]; rfl, ?_⟩
      repeat' (first
        | (with_reducible exact Below.refl _ _)
        | (with_reducible assumption)
        | (with_reducible refine Below.alloc ?_ ?_ _)
        | (with_reducible refine Below.drew ?_)
        | (with_reducible refine bdrewN ?_ _)
        | (with_reducible refine Below.setCell ?_ ?_ _)
        | (with_reducible refine bthen (by assumption) ?_ ?_)
        | go_size)
    · have HF := Lib.hid (show fWith p m l f = (withI p m l f, 0) by simp only [fWith, hok, hf, if_true, if_neg hm])
      have HQ := Lib.hid (show ∀ q, LeastAt (fun v => !canB p m l f v) 0 20000 q → q - 1 = withI p m l f from fun q hq => great_of_least (n := 20000) (by omega) (canB_zero (p := p) (m := m) (l := l) (f := f) p0 l1 (by omega)) hq (fun v v' h1 h2 _ h4 => canB_mono p0 l0 l1 h1 h2 h4))
      go_enter Try.func21, Try.ntmps21
      go_wp2
      go_region_held3 (fun w' => w'.cell? ⟨w.heap.size, 0, none⟩ = some (.int .i64 p) ∧ w'.cell? ⟨w.heap.size, 1, none⟩ = some (.int .i64 m) ∧ w'.cell? ⟨w.heap.size, 2, none⟩ = some (.int .i64 l) ∧ w'.cell? ⟨w.heap.size + 1, 0, none⟩ = some (.int .i64 f)) (simp [*, go_sem])
        (first
          | (go_at_call 54; go_call (isForce_v hf _); rintro e w' ⟨rfl, rfl⟩)
          | (go_at_call 53; go_call (motored_c _ _ _ _ _); rintro e w' ⟨rfl, hb⟩; obtain ⟨qc, qf, qz, qs⟩ := bfacts hb; (try simp only [World.size_alloc, World.size_setCell, World.size_drew, World.heap_drewN] at qs)))
      have z0 : w.heap.size < w'.heap.size := by omega
      have z1 : w.heap.size + 1 < w'.heap.size := by omega
      go_wp2_with
        (first
          | (go_at_call 55; go_loud ((refine (leastWith_c p m l f p0 l0 l1 hf w.heap.size (w.heap.size + 1) _ (by first | omega | (simp; omega)) (by first | omega | (simp; omega)) (by simp [*, go_sem]) (by simp [*, go_sem]) (by simp [*, go_sem]) (by simp [*, go_sem])).mono ?_); rintro e w1 ⟨q, rfl, hq, hb1⟩; have hq1 := hq.1; have hq2 := hq.2.1; have HR := Lib.hid (HQ.out q hq); clear hq)))
      go_returns
      refine ⟨by rw [HF.out, ← HR.out]; rfl, ?_⟩
      repeat' (first
        | (with_reducible exact Below.refl _ _)
        | (with_reducible assumption)
        | (with_reducible refine Below.alloc ?_ ?_ _)
        | (with_reducible refine Below.drew ?_)
        | (with_reducible refine bdrewN ?_ _)
        | (with_reducible refine Below.setCell ?_ ?_ _)
        | (with_reducible refine bthen (by assumption) ?_ ?_)
        | go_size)
  all_goals
    go_enter Try.func21, Try.ntmps21
    go_wp2
    go_region_held3 (fun w' => w'.cell? ⟨w.heap.size, 0, none⟩ = some (.int .i64 p) ∧ w'.cell? ⟨w.heap.size, 1, none⟩ = some (.int .i64 m) ∧ w'.cell? ⟨w.heap.size, 2, none⟩ = some (.int .i64 l) ∧ w'.cell? ⟨w.heap.size + 1, 0, none⟩ = some (.int .i64 f)) (simp [*, go_sem])
      (first
        | (go_at_call 54; go_call (isForce_v hf _); rintro e w' ⟨rfl, rfl⟩)
        | (go_at_call 53; go_call (motored_c _ _ _ _ _); rintro e w' ⟨rfl, hb⟩; obtain ⟨qc, qf, qz, qs⟩ := bfacts hb; (try simp only [World.size_alloc, World.size_setCell, World.size_drew, World.heap_drewN] at qs)))
    have z0 : w.heap.size < w'.heap.size := by omega
    have z1 : w.heap.size + 1 < w'.heap.size := by omega
    go_wp2
    go_returns
    refine ⟨by simp [fWith, hok, hf], ?_⟩
    repeat' (first
      | (with_reducible exact Below.refl _ _)
      | (with_reducible assumption)
      | (with_reducible refine Below.alloc ?_ ?_ _)
      | (with_reducible refine Below.drew ?_)
      | (with_reducible refine bdrewN ?_ _)
      | (with_reducible refine Below.setCell ?_ ?_ _)
      | (with_reducible refine bthen (by assumption) ?_ ?_)
      | go_size)
set_option maxHeartbeats 1000000 in
theorem specSpeedWith_t (p m l f : Int) (hok : motorOk p m l = true) (hf : inB f (-1000000) 1000000 = true) (hm : ¬ m < f) (w : World) : Calls Try.prog 19 #[.agg #[.int .i64 p, .int .i64 m, .int .i64 l], .int .i64 f] w fun e w' => e = .returned (.tuple #[.int .i64 (withI p m l f), .int .i64 0]) ∧ Below w.heap.size w w' := by
  obtain ⟨⟨p0, p1⟩, ⟨m0, m1⟩, ⟨l0, l1⟩⟩ := motorOk_true hok
  obtain ⟨f0, f1⟩ := inB_true hf
  have HZ := Lib.hid (canB_zero (p := p) (m := m) (l := l) (f := f) p0 l1 (by omega))
  have HG := Lib.hid (show ∀ q, 0 ≤ q → q ≤ 20000 → canB p m l f q = true → (∀ v, q < v → v ≤ 20000 → canB p m l f v = false) → q = withI p m l f from fun q h1 h2 h3 h4 => great_of (n := 20000) (by omega) (canB_zero (p := p) (m := m) (l := l) (f := f) p0 l1 (by omega)) h1 h2 h3 h4)
  have HMO := Lib.hid (show ∀ v v', 0 ≤ v → v ≤ v' → canB p m l f v' = true → canB p m l f v = true from fun v v' hv h k => canB_mono p0 l0 l1 hv h k)
  go_enter Try.func19, Try.ntmps19
  go_wp2_with
    (first
      | (go_at_call 50; go_call (l10Ok_c p m l); rintro e w' ⟨rfl, rfl⟩)
      | (go_at_call 51; go_call (l10Force_c _ _); rintro e w' ⟨rfl, rfl⟩))
  generalize hW : (w.alloc (.cells #[.int .i64 p, .int .i64 m, .int .i64 l] 28)) = W at *
  have k0 : W.cell? ⟨w.heap.size, 0, none⟩ = some (.int .i64 p) := by rw [← hW]; simp
  have k1 : W.cell? ⟨w.heap.size, 1, none⟩ = some (.int .i64 m) := by rw [← hW]; simp
  have k2 : W.cell? ⟨w.heap.size, 2, none⟩ = some (.int .i64 l) := by rw [← hW]; simp
  have kB : Below w.heap.size w W := by rw [← hW]; exact (Below.refl _ _).alloc (Nat.le_refl _) _
  clear hW
  go_loopw [6, 7] (fun p' q wr => ∃ x z : Int, 0 ≤ x ∧ x < z ∧ z ≤ 20001 ∧ Hid (canB p m l f x = true) ∧ Hid (z ≤ 20000 → canB p m l f z = false) ∧ p' = .int .i64 x ∧ q = .int .i64 z ∧ ∃ n, wr = W.drewN n) (fun p' q _ => (intOf q - intOf p').toNat)
  case atStart => exact ⟨0, 20001, by omega, by omega, by omega, HZ, Lib.hid (fun _ => by omega), rfl, rfl, (by first | exact ⟨_, rfl⟩ | exact ⟨_, World.drewN_drewN _ _ _⟩ | exact ⟨0, rfl⟩)⟩
  case round =>
    obtain ⟨x, z, hx, hxz, hz, HX, HZ', rfl, rfl, n, rfl⟩ := hrel
    by_cases hlt : 1 < z - x
    · have m0' : 0 ≤ (x + z) / 2 := by omega
      have m1' : (x + z) / 2 ≤ 20000 := by omega
      have m2' : x < (x + z) / 2 := by omega
      have m3' : (x + z) / 2 < z := by omega
      have hv : inB ((x + z) / 2) 0 20000 = true := inB_of m0' m1'
      cases hm' : canB p m l f ((x + z) / 2)
      ·
        go_wp2_with
          (first
            | (go_at_call 52; go_call (l10Need_c p m l f _ p0 l0 l1 hf hv); rintro e w' ⟨rfl, nq, rfl⟩))
        go_roundw
        case rel => exact ⟨x, (x + z) / 2, by omega, by omega, by omega, HX, Lib.hid (fun _ => hm'), rfl, rfl, (by first | exact ⟨_, rfl⟩ | exact ⟨_, World.drewN_drewN _ _ _⟩ | exact ⟨0, rfl⟩)⟩
        case measure => simp [intOf]; omega
      ·
        go_wp2_with
          (first
            | (go_at_call 52; go_call (l10Need_c p m l f _ p0 l0 l1 hf hv); rintro e w' ⟨rfl, nq, rfl⟩))
        go_roundw
        case rel => exact ⟨(x + z) / 2, z, by omega, by omega, by omega, Lib.hid hm', HZ', rfl, rfl, (by first | exact ⟨_, rfl⟩ | exact ⟨_, World.drewN_drewN _ _ _⟩ | exact ⟨0, rfl⟩)⟩
        case measure => simp [intOf]; omega
    · have HR := Lib.hid (HG.out x hx (by omega) HX.out (fun v h1 h2 => by
        rcases hv : canB p m l f v with _ | _
        · rfl
        · have := HMO.out z v (by omega) (by omega) hv
          rw [HZ'.out (by omega)] at this
          cases this))
      go_wp2
      go_returns
      refine ⟨by (rw [HR.out]) <;> rfl, ?_⟩
      repeat' (first
        | (with_reducible exact Below.refl _ _)
        | (with_reducible assumption)
        | (with_reducible refine Below.alloc ?_ ?_ _)
        | (with_reducible refine Below.drew ?_)
        | (with_reducible refine bdrewN ?_ _)
        | (with_reducible refine Below.setCell ?_ ?_ _)
        | (with_reducible refine bthen (by assumption) ?_ ?_)
        | go_size)
theorem specSpeedWith_c (p m l f : Int) (w : World) : Calls Try.prog 19 #[.agg #[.int .i64 p, .int .i64 m, .int .i64 l], .int .i64 f] w fun e w' => e = .returned (.tuple #[.int .i64 (fWith p m l f).1, .int .i64 (fWith p m l f).2]) ∧ Below w.heap.size w w' := by
  by_cases hm : m < f <;> cases hok : motorOk p m l <;> cases hf : inB f (-1000000) 1000000
  case neg.true.true =>
    have h := specSpeedWith_t p m l f hok hf hm w
    simpa only [fWith, hok, hf, if_true, if_neg hm] using h
  all_goals
    go_enter Try.func19, Try.ntmps19
    go_wp2_with
      (first
        | (go_at_call 50; go_call (l10Ok_c p m l); rintro e w' ⟨rfl, rfl⟩)
        | (go_at_call 51; go_call (l10Force_c _ _); rintro e w' ⟨rfl, rfl⟩))
    go_returns
    refine ⟨by simp [fWith, hok, hf, hm], ?_⟩
    repeat' (first
      | (with_reducible exact Below.refl _ _)
      | (with_reducible assumption)
      | (with_reducible refine Below.alloc ?_ ?_ _)
      | (with_reducible refine Below.drew ?_)
      | (with_reducible refine bdrewN ?_ _)
      | (with_reducible refine Below.setCell ?_ ?_ _)
      | (with_reducible refine bthen (by assumption) ?_ ?_)
      | go_size)
theorem walk_FnExactSpeedWith (p m l f : Int) (w : World) (_ : I64 p) (_ : I64 m) (_ : I64 l) (_ : I64 f) : Calls Try.prog 5 #[.agg #[.int .i64 p, .int .i64 m, .int .i64 l], .int .i64 f] w fun e w' => e = .returned (.bool true) ∧ Below w.heap.size w w' := by
  go_enter Try.func5, Try.ntmps5
  go_wp2_with
    (first
      | (go_at_call 20; go_call (toMotor_c _ _ _ _); rintro e w' ⟨rfl, hb⟩; obtain ⟨qc, qf, qz, qs⟩ := bfacts hb; (try simp only [World.size_alloc, World.size_setCell, World.size_drew, World.heap_drewN] at qs); have za : w.heap.size < w'.heap.size := (by omega); have pa0 : w'.cell? ⟨w.heap.size, 0, none⟩ = some (.int .i64 p) := (by rw [qc _ _ (by first | assumption | (simp; done) | (simp; omega))]; first | assumption | (simp; done) | (simp [*]; done) | (simp [*, go_sem]; done)); have pa1 : w'.cell? ⟨w.heap.size, 1, none⟩ = some (.int .i64 m) := (by rw [qc _ _ (by first | assumption | (simp; done) | (simp; omega))]; first | assumption | (simp; done) | (simp [*]; done) | (simp [*, go_sem]; done)); have pa2 : w'.cell? ⟨w.heap.size, 2, none⟩ = some (.int .i64 l) := (by rw [qc _ _ (by first | assumption | (simp; done) | (simp; omega))]; first | assumption | (simp; done) | (simp [*]; done) | (simp [*, go_sem]; done)))
      | (go_at_call 19; go_call (specSpeedWith_c _ _ _ _ _); rintro e w' ⟨rfl, hb⟩; obtain ⟨qc, qf, qz, qs⟩ := bfacts hb; (try simp only [World.size_alloc, World.size_setCell, World.size_drew, World.heap_drewN] at qs); have za : w.heap.size < w'.heap.size := (by omega); have pa0 : w'.cell? ⟨w.heap.size, 0, none⟩ = some (.int .i64 p) := (by rw [qc _ _ (by first | assumption | (simp; done) | (simp; omega))]; first | assumption | (simp; done) | (simp [*]; done) | (simp [*, go_sem]; done)); have pa1 : w'.cell? ⟨w.heap.size, 1, none⟩ = some (.int .i64 m) := (by rw [qc _ _ (by first | assumption | (simp; done) | (simp; omega))]; first | assumption | (simp; done) | (simp [*]; done) | (simp [*, go_sem]; done)); have pa2 : w'.cell? ⟨w.heap.size, 2, none⟩ = some (.int .i64 l) := (by rw [qc _ _ (by first | assumption | (simp; done) | (simp; omega))]; first | assumption | (simp; done) | (simp [*]; done) | (simp [*, go_sem]; done)))
      | (go_at_call 21; go_call (implSpeedWith_c _ _ _ _ _); rintro e w' ⟨rfl, hb⟩; obtain ⟨qc, qf, qz, qs⟩ := bfacts hb; (try simp only [World.size_alloc, World.size_setCell, World.size_drew, World.heap_drewN] at qs); have za : w.heap.size < w'.heap.size := (by omega); have pa0 : w'.cell? ⟨w.heap.size, 0, none⟩ = some (.int .i64 p) := (by rw [qc _ _ (by first | assumption | (simp; done) | (simp; omega))]; first | assumption | (simp; done) | (simp [*]; done) | (simp [*, go_sem]; done)); have pa1 : w'.cell? ⟨w.heap.size, 1, none⟩ = some (.int .i64 m) := (by rw [qc _ _ (by first | assumption | (simp; done) | (simp; omega))]; first | assumption | (simp; done) | (simp [*]; done) | (simp [*, go_sem]; done)); have pa2 : w'.cell? ⟨w.heap.size, 2, none⟩ = some (.int .i64 l) := (by rw [qc _ _ (by first | assumption | (simp; done) | (simp; omega))]; first | assumption | (simp; done) | (simp [*]; done) | (simp [*, go_sem]; done))))
  go_returns
  refine ⟨by simp, ?_⟩
  repeat' (first
    | (with_reducible exact Below.refl _ _)
    | (with_reducible assumption)
    | (with_reducible refine Below.alloc ?_ ?_ _)
    | (with_reducible refine Below.drew ?_)
    | (with_reducible refine bdrewN ?_ _)
    | (with_reducible refine Below.setCell ?_ ?_ _)
    | (with_reducible refine bthen (by assumption) ?_ ?_)
    | go_size)
end Go.Proofs.Ytgnanppgbkngnaa
