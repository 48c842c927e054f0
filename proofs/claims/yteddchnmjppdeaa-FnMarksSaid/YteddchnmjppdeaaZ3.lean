/- SpeedAllowed. -/
import Derived.Test.YteddchnmjppdeaaZ
namespace Go.Proofs.Yteddchnmjppdeaa
open Go.ChangeShapes Go.WideShapes Go.ChangeAt Go.RowKit
set_option linter.unusedVariables false
set_option linter.unusedSimpArgs false

/-- Does a limit (kind a, above b) come in in an hour? -/
def appB (a b r d x : Int) : Bool := kindB a r d x && decide (b < kindN a r d x)
def allowTo (z : List Int) (r d x v : Int) : Nat → Int
  | 0 => v
  | k + 1 => if appB (tA z k) (tB z k) r d x then min (allowTo z r d x v k) (tC z k) else allowTo z r d x v k
theorem allowTo_bd {z : List Int} {r d x v : Int} {n : Nat} (hz : ∀ k, k < n → limOk (tA z k) (tB z k) (tC z k) = true) (v0 : 0 ≤ v) (v1 : v ≤ 20000) : ∀ k, k ≤ n → 0 ≤ allowTo z r d x v k ∧ allowTo z r d x v k ≤ 20000
  | 0, _ => ⟨v0, v1⟩
  | k + 1, hk => by
    have h1 := allowTo_bd hz v0 v1 (r := r) (d := d) (x := x) k (by omega)
    have h2 := limOk_true (hz k (by omega))
    simp only [allowTo]
    split <;> omega
theorem allowTo_in {z : List Int} {r d x v : Int} {k : Nat} (h : appB (tA z k) (tB z k) r d x = true) : allowTo z r d x v (k + 1) = min (allowTo z r d x v k) (tC z k) := by rw [allowTo, if_pos h]
theorem allowTo_out {z : List Int} {r d x v : Int} {k : Nat} (h : appB (tA z k) (tB z k) r d x = false) : allowTo z r d x v (k + 1) = allowTo z r d x v k := by rw [allowTo, if_neg (by simp [h])]
def fAllow (z : List Int) (n : Nat) (r d x v : Int) : Int × Int := if limsB z n then (if hourOk r d x then (if inB v 0 20000 then (allowTo z r d x v n, 0) else (0, 2)) else (0, 1)) else (0, 1)
theorem applies_c (a b c r d x : Int) (ha : 1 ≤ a) (ha' : a ≤ 4) (hd0 : -400 ≤ d) (hd1 : d ≤ 500) (w : World) : Calls Try.prog 71 #[.agg #[.int .i64 a, .int .i64 b, .int .i64 c], .agg #[.int .i64 r, .int .i64 d, .int .i64 x]] w fun e w' => e = .returned (.bool (appB a b r d x)) ∧ Below w.heap.size w w' := by
  obtain rfl | rfl | rfl | rfl : a = 1 ∨ a = 2 ∨ a = 3 ∨ a = 4 := by omega
  · have HA := Lib.hid (show appB 1 b r d x = (kindB 1 r d x && decide (b < r)) from rfl)
    cases hk : kindB 1 r d x
    all_goals
      go_enter Try.func71, Try.ntmps71
      go_wp2_with
        (first
          | (go_at_call 61; go_call (isKind_c); rintro e w' ⟨rfl, hb⟩; obtain ⟨qc, qf, qz, qs⟩ := bfacts hb; (try simp only [World.size_alloc, World.size_setCell, World.size_drew, World.heap_drewN] at qs); have za : w.heap.size < w'.heap.size := (by omega); have pa0 : w'.cell? ⟨w.heap.size, 0, none⟩ = some (.int .i64 1) := (by rw [qc _ _ (by first | assumption | (simp; done) | (simp; omega))]; first | assumption | (simp; done) | (simp [*]; done) | (simp [*, go_sem]; done)); have pa1 : w'.cell? ⟨w.heap.size, 1, none⟩ = some (.int .i64 b) := (by rw [qc _ _ (by first | assumption | (simp; done) | (simp; omega))]; first | assumption | (simp; done) | (simp [*]; done) | (simp [*, go_sem]; done)); have pa2 : w'.cell? ⟨w.heap.size, 2, none⟩ = some (.int .i64 c) := (by rw [qc _ _ (by first | assumption | (simp; done) | (simp; omega))]; first | assumption | (simp; done) | (simp [*]; done) | (simp [*, go_sem]; done)); have zb : (w.heap.size + 1) < w'.heap.size := (by omega); have pb0 : w'.cell? ⟨(w.heap.size + 1), 0, none⟩ = some (.int .i64 r) := (by rw [qc _ _ (by first | assumption | (simp; done) | (simp; omega))]; first | assumption | (simp; done) | (simp [*]; done) | (simp [*, go_sem]; done)); have pb1 : w'.cell? ⟨(w.heap.size + 1), 1, none⟩ = some (.int .i64 d) := (by rw [qc _ _ (by first | assumption | (simp; done) | (simp; omega))]; first | assumption | (simp; done) | (simp [*]; done) | (simp [*, go_sem]; done)); have pb2 : w'.cell? ⟨(w.heap.size + 1), 2, none⟩ = some (.int .i64 x) := (by rw [qc _ _ (by first | assumption | (simp; done) | (simp; omega))]; first | assumption | (simp; done) | (simp [*]; done) | (simp [*, go_sem]; done))))
      go_returns
      refine ⟨by rw [HA.out]; simp [hk], ?_⟩
      repeat' (first
        | (with_reducible exact Below.refl _ _)
        | (with_reducible assumption)
        | (with_reducible refine Below.alloc ?_ ?_ _)
        | (with_reducible refine Below.drew ?_)
        | (with_reducible refine bdrewN ?_ _)
        | (with_reducible refine Below.setCell ?_ ?_ _)
        | (with_reducible refine bthen (by assumption) ?_ ?_)
        | go_size)
  · have HA := Lib.hid (show appB 2 b r d x = (kindB 2 r d x && decide (b < r)) from rfl)
    cases hk : kindB 2 r d x
    all_goals
      go_enter Try.func71, Try.ntmps71
      go_wp2_with
        (first
          | (go_at_call 61; go_call (isKind_c); rintro e w' ⟨rfl, hb⟩; obtain ⟨qc, qf, qz, qs⟩ := bfacts hb; (try simp only [World.size_alloc, World.size_setCell, World.size_drew, World.heap_drewN] at qs); have za : w.heap.size < w'.heap.size := (by omega); have pa0 : w'.cell? ⟨w.heap.size, 0, none⟩ = some (.int .i64 2) := (by rw [qc _ _ (by first | assumption | (simp; done) | (simp; omega))]; first | assumption | (simp; done) | (simp [*]; done) | (simp [*, go_sem]; done)); have pa1 : w'.cell? ⟨w.heap.size, 1, none⟩ = some (.int .i64 b) := (by rw [qc _ _ (by first | assumption | (simp; done) | (simp; omega))]; first | assumption | (simp; done) | (simp [*]; done) | (simp [*, go_sem]; done)); have pa2 : w'.cell? ⟨w.heap.size, 2, none⟩ = some (.int .i64 c) := (by rw [qc _ _ (by first | assumption | (simp; done) | (simp; omega))]; first | assumption | (simp; done) | (simp [*]; done) | (simp [*, go_sem]; done)); have zb : (w.heap.size + 1) < w'.heap.size := (by omega); have pb0 : w'.cell? ⟨(w.heap.size + 1), 0, none⟩ = some (.int .i64 r) := (by rw [qc _ _ (by first | assumption | (simp; done) | (simp; omega))]; first | assumption | (simp; done) | (simp [*]; done) | (simp [*, go_sem]; done)); have pb1 : w'.cell? ⟨(w.heap.size + 1), 1, none⟩ = some (.int .i64 d) := (by rw [qc _ _ (by first | assumption | (simp; done) | (simp; omega))]; first | assumption | (simp; done) | (simp [*]; done) | (simp [*, go_sem]; done)); have pb2 : w'.cell? ⟨(w.heap.size + 1), 2, none⟩ = some (.int .i64 x) := (by rw [qc _ _ (by first | assumption | (simp; done) | (simp; omega))]; first | assumption | (simp; done) | (simp [*]; done) | (simp [*, go_sem]; done))))
      go_returns
      refine ⟨by rw [HA.out]; simp [hk], ?_⟩
      repeat' (first
        | (with_reducible exact Below.refl _ _)
        | (with_reducible assumption)
        | (with_reducible refine Below.alloc ?_ ?_ _)
        | (with_reducible refine Below.drew ?_)
        | (with_reducible refine bdrewN ?_ _)
        | (with_reducible refine Below.setCell ?_ ?_ _)
        | (with_reducible refine bthen (by assumption) ?_ ?_)
        | go_size)
  · have HA := Lib.hid (show appB 3 b r d x = (kindB 3 r d x && decide (b < x)) from rfl)
    cases hk : kindB 3 r d x
    all_goals
      go_enter Try.func71, Try.ntmps71
      go_wp2_with
        (first
          | (go_at_call 61; go_call (isKind_c); rintro e w' ⟨rfl, hb⟩; obtain ⟨qc, qf, qz, qs⟩ := bfacts hb; (try simp only [World.size_alloc, World.size_setCell, World.size_drew, World.heap_drewN] at qs); have za : w.heap.size < w'.heap.size := (by omega); have pa0 : w'.cell? ⟨w.heap.size, 0, none⟩ = some (.int .i64 3) := (by rw [qc _ _ (by first | assumption | (simp; done) | (simp; omega))]; first | assumption | (simp; done) | (simp [*]; done) | (simp [*, go_sem]; done)); have pa1 : w'.cell? ⟨w.heap.size, 1, none⟩ = some (.int .i64 b) := (by rw [qc _ _ (by first | assumption | (simp; done) | (simp; omega))]; first | assumption | (simp; done) | (simp [*]; done) | (simp [*, go_sem]; done)); have pa2 : w'.cell? ⟨w.heap.size, 2, none⟩ = some (.int .i64 c) := (by rw [qc _ _ (by first | assumption | (simp; done) | (simp; omega))]; first | assumption | (simp; done) | (simp [*]; done) | (simp [*, go_sem]; done)); have zb : (w.heap.size + 1) < w'.heap.size := (by omega); have pb0 : w'.cell? ⟨(w.heap.size + 1), 0, none⟩ = some (.int .i64 r) := (by rw [qc _ _ (by first | assumption | (simp; done) | (simp; omega))]; first | assumption | (simp; done) | (simp [*]; done) | (simp [*, go_sem]; done)); have pb1 : w'.cell? ⟨(w.heap.size + 1), 1, none⟩ = some (.int .i64 d) := (by rw [qc _ _ (by first | assumption | (simp; done) | (simp; omega))]; first | assumption | (simp; done) | (simp [*]; done) | (simp [*, go_sem]; done)); have pb2 : w'.cell? ⟨(w.heap.size + 1), 2, none⟩ = some (.int .i64 x) := (by rw [qc _ _ (by first | assumption | (simp; done) | (simp; omega))]; first | assumption | (simp; done) | (simp [*]; done) | (simp [*, go_sem]; done))))
      go_returns
      refine ⟨by rw [HA.out]; simp [hk], ?_⟩
      repeat' (first
        | (with_reducible exact Below.refl _ _)
        | (with_reducible assumption)
        | (with_reducible refine Below.alloc ?_ ?_ _)
        | (with_reducible refine Below.drew ?_)
        | (with_reducible refine bdrewN ?_ _)
        | (with_reducible refine Below.setCell ?_ ?_ _)
        | (with_reducible refine bthen (by assumption) ?_ ?_)
        | go_size)
  · have HA := Lib.hid (show appB 4 b r d x = (kindB 4 r d x && decide (b < (-d))) from rfl)
    cases hk : kindB 4 r d x
    all_goals
      go_enter Try.func71, Try.ntmps71
      go_wp2_with
        (first
          | (go_at_call 61; go_call (isKind_c); rintro e w' ⟨rfl, hb⟩; obtain ⟨qc, qf, qz, qs⟩ := bfacts hb; (try simp only [World.size_alloc, World.size_setCell, World.size_drew, World.heap_drewN] at qs); have za : w.heap.size < w'.heap.size := (by omega); have pa0 : w'.cell? ⟨w.heap.size, 0, none⟩ = some (.int .i64 4) := (by rw [qc _ _ (by first | assumption | (simp; done) | (simp; omega))]; first | assumption | (simp; done) | (simp [*]; done) | (simp [*, go_sem]; done)); have pa1 : w'.cell? ⟨w.heap.size, 1, none⟩ = some (.int .i64 b) := (by rw [qc _ _ (by first | assumption | (simp; done) | (simp; omega))]; first | assumption | (simp; done) | (simp [*]; done) | (simp [*, go_sem]; done)); have pa2 : w'.cell? ⟨w.heap.size, 2, none⟩ = some (.int .i64 c) := (by rw [qc _ _ (by first | assumption | (simp; done) | (simp; omega))]; first | assumption | (simp; done) | (simp [*]; done) | (simp [*, go_sem]; done)); have zb : (w.heap.size + 1) < w'.heap.size := (by omega); have pb0 : w'.cell? ⟨(w.heap.size + 1), 0, none⟩ = some (.int .i64 r) := (by rw [qc _ _ (by first | assumption | (simp; done) | (simp; omega))]; first | assumption | (simp; done) | (simp [*]; done) | (simp [*, go_sem]; done)); have pb1 : w'.cell? ⟨(w.heap.size + 1), 1, none⟩ = some (.int .i64 d) := (by rw [qc _ _ (by first | assumption | (simp; done) | (simp; omega))]; first | assumption | (simp; done) | (simp [*]; done) | (simp [*, go_sem]; done)); have pb2 : w'.cell? ⟨(w.heap.size + 1), 2, none⟩ = some (.int .i64 x) := (by rw [qc _ _ (by first | assumption | (simp; done) | (simp; omega))]; first | assumption | (simp; done) | (simp [*]; done) | (simp [*, go_sem]; done))))
      go_returns
      refine ⟨by rw [HA.out]; simp [hk], ?_⟩
      repeat' (first
        | (with_reducible exact Below.refl _ _)
        | (with_reducible assumption)
        | (with_reducible refine Below.alloc ?_ ?_ _)
        | (with_reducible refine Below.drew ?_)
        | (with_reducible refine bdrewN ?_ _)
        | (with_reducible refine Below.setCell ?_ ?_ _)
        | (with_reducible refine bthen (by assumption) ?_ ?_)
        | go_size)
set_option maxHeartbeats 2000000 in
theorem l08Allowed_c (A : Option Addr) (n c : Nat) (z : List Int) (r d x v : Int) (hz : z.length = n * 3) (hn : n ≤ 1048576) (hd0 : -400 ≤ d) (hd1 : d ≤ 500) (b o : Nat) (w : World) (hr : RowI w A z) (hb : b < w.heap.size) (h0 : w.cell? ⟨b, o, none⟩ = some (.int .i64 r)) (h1 : w.cell? ⟨b, o + 1, none⟩ = some (.int .i64 d)) (h2 : w.cell? ⟨b, o + 2, none⟩ = some (.int .i64 x)) : Calls Try.prog 56 #[.slice A n c, .pointer (some ⟨b, o, none⟩), .int .i64 v] w fun e w' => e = .returned (.int .i64 (allowTo z r d x v n)) ∧ Below w.heap.size w w' := by
  go_enter Try.func56, Try.ntmps56
  go_wp2
  go_loopw [2, 7] (fun s i wr => ∃ k : Nat, k ≤ n ∧ i = .int .i64 k ∧ s = .int .i64 (allowTo z r d x v k) ∧ Below w.heap.size w wr) (fun _ i _ => n - (intOf i).toNat)
  case atStart => exact ⟨0, by omega, rfl, rfl, Below.refl _ _⟩
  case round =>
    obtain ⟨k, hk, rfl, rfl, hBr⟩ := hrel
    have g0 := (hBr.cell (p := ⟨b, o, none⟩) hb).trans h0
    have g1 := (hBr.cell (p := ⟨b, o + 1, none⟩) hb).trans h1
    have g2 := (hBr.cell (p := ⟨b, o + 2, none⟩) hb).trans h2
    by_cases hlt : k < n
    · obtain ⟨b', off, rfl, hbb, c1, c2, c3⟩ := (hr.below hBr).tri hz hlt
      have i1 : (k : Int) < n := by omega
      have hsr := hBr.size
      rcases hk1 : kindB (tA z k) r d x with _ | _
      · have HN := Lib.hid (allowTo_out (v := v) (show appB (tA z k) (tB z k) r d x = false by simp [appB, hk1]))
        generalize allowTo z r d x v k = s at *
        go_wp2_with
          (first
            | (go_at_call 72; go_call (l08Is_c r d x (tA z k) hd0 hd1 b o); rintro e w' ⟨rfl, nq, rfl⟩)
            | (go_at_call 65; go_call (l00Min_c _ _ _); rintro e w' ⟨rfl, rfl⟩))
        go_roundw
        case rel =>
          refine ⟨k + 1, by omega, by go_num, by (rw [HN.out]) <;> rfl, ?_⟩
          repeat' (first
            | (with_reducible exact Below.refl _ _)
            | (with_reducible assumption)
            | (with_reducible refine Below.alloc ?_ ?_ _)
            | (with_reducible refine Below.drew ?_)
            | (with_reducible refine bdrewN ?_ _)
            | (with_reducible refine Below.setCell ?_ ?_ _)
            | (with_reducible refine bthen (by assumption) ?_ ?_)
            | go_size)
        case measure => simp [intOf]; omega
      by_cases hl : tB z k < kindN (tA z k) r d x
      · have HN := Lib.hid (allowTo_in (v := v) (show appB (tA z k) (tB z k) r d x = true by simp [appB, hk1, hl]))
        generalize allowTo z r d x v k = s at *
        go_wp2_with
          (first
            | (go_at_call 72; go_call (l08Is_c r d x (tA z k) hd0 hd1 b o); rintro e w' ⟨rfl, nq, rfl⟩)
            | (go_at_call 65; go_call (l00Min_c _ _ _); rintro e w' ⟨rfl, rfl⟩))
        go_roundw
        case rel =>
          refine ⟨k + 1, by omega, by go_num, by (rw [HN.out]) <;> rfl, ?_⟩
          repeat' (first
            | (with_reducible exact Below.refl _ _)
            | (with_reducible assumption)
            | (with_reducible refine Below.alloc ?_ ?_ _)
            | (with_reducible refine Below.drew ?_)
            | (with_reducible refine bdrewN ?_ _)
            | (with_reducible refine Below.setCell ?_ ?_ _)
            | (with_reducible refine bthen (by assumption) ?_ ?_)
            | go_size)
        case measure => simp [intOf]; omega
      · have HN := Lib.hid (allowTo_out (v := v) (show appB (tA z k) (tB z k) r d x = false by simp [appB, hk1, hl]))
        generalize allowTo z r d x v k = s at *
        go_wp2_with
          (first
            | (go_at_call 72; go_call (l08Is_c r d x (tA z k) hd0 hd1 b o); rintro e w' ⟨rfl, nq, rfl⟩)
            | (go_at_call 65; go_call (l00Min_c _ _ _); rintro e w' ⟨rfl, rfl⟩))
        go_roundw
        case rel =>
          refine ⟨k + 1, by omega, by go_num, by (rw [HN.out]) <;> rfl, ?_⟩
          repeat' (first
            | (with_reducible exact Below.refl _ _)
            | (with_reducible assumption)
            | (with_reducible refine Below.alloc ?_ ?_ _)
            | (with_reducible refine Below.drew ?_)
            | (with_reducible refine bdrewN ?_ _)
            | (with_reducible refine Below.setCell ?_ ?_ _)
            | (with_reducible refine bthen (by assumption) ?_ ?_)
            | go_size)
        case measure => simp [intOf]; omega
    · obtain rfl : k = n := by omega
      go_wp2
      go_ret
      exact ⟨rfl, hBr⟩
set_option maxHeartbeats 2000000 in
theorem allowed_c (A : Option Addr) (n c : Nat) (z : List Int) (r d x v : Int) (hz : z.length = n * 3) (hn : n ≤ 1048576) (hl : ∀ k, k < n → limOk (tA z k) (tB z k) (tC z k) = true) (hd0 : -400 ≤ d) (hd1 : d ≤ 500) (w : World) (hr : RowI w A z) : Calls Try.prog 51 #[.slice A n c, .agg #[.int .i64 r, .int .i64 d, .int .i64 x], .int .i64 v] w fun e w' => e = .returned (.int .i64 (allowTo z r d x v n)) ∧ Below w.heap.size w w' := by
  have HL := Lib.hid hl
  clear hl
  have hr1 := hr.alloc (.cells #[.int .i64 r, .int .i64 d, .int .i64 x] 40)
  have hB1 : Below w.heap.size w (w.alloc (.cells #[.int .i64 r, .int .i64 d, .int .i64 x] 40)) := (Below.refl _ _).alloc (Nat.le_refl _) _
  have k0 : (w.alloc (.cells #[.int .i64 r, .int .i64 d, .int .i64 x] 40)).cell? ⟨w.heap.size, 0, none⟩ = some (.int .i64 r) := by simp
  have k1 : (w.alloc (.cells #[.int .i64 r, .int .i64 d, .int .i64 x] 40)).cell? ⟨w.heap.size, 1, none⟩ = some (.int .i64 d) := by simp
  have k2 : (w.alloc (.cells #[.int .i64 r, .int .i64 d, .int .i64 x] 40)).cell? ⟨w.heap.size, 2, none⟩ = some (.int .i64 x) := by simp
  have kl : w.heap.size < (w.alloc (.cells #[.int .i64 r, .int .i64 d, .int .i64 x] 40)).heap.size := by simp
  go_enter Try.func51, Try.ntmps51
  go_wp2
  generalize w.alloc (.cells #[.int .i64 r, .int .i64 d, .int .i64 x] 40) = W at *
  go_loopw [2, 11] (fun s i wr => ∃ k : Nat, k ≤ n ∧ i = .int .i64 k ∧ s = .int .i64 (allowTo z r d x v k) ∧ Below W.heap.size W wr) (fun _ i _ => n - (intOf i).toNat)
  case atStart => exact ⟨0, by omega, rfl, rfl, Below.refl _ _⟩
  case round =>
    obtain ⟨k, hk, rfl, rfl, hBr⟩ := hrel
    have g0 := (hBr.cell (p := ⟨w.heap.size, 0, none⟩) kl).trans k0
    have g1 := (hBr.cell (p := ⟨w.heap.size, 1, none⟩) kl).trans k1
    have g2 := (hBr.cell (p := ⟨w.heap.size, 2, none⟩) kl).trans k2
    have hsr := hBr.size
    have kw : w.heap.size < wr.heap.size := by omega
    by_cases hlt : k < n
    · obtain ⟨b', off, rfl, hbb, c1, c2, c3⟩ := (hr1.below hBr).tri hz hlt
      have i1 : (k : Int) < n := by omega
      obtain ⟨⟨a0, a1⟩, ⟨b0, b1⟩, s0, s1⟩ := limOk_true (HL.out k hlt)
      cases hap : appB (tA z k) (tB z k) r d x
      · have HN := Lib.hid (allowTo_out (v := v) hap)
        generalize allowTo z r d x v k = s at *
        go_wp2_with
          (first
            | (go_at_call 71; go_call (applies_c); rintro e w' ⟨rfl, hb⟩; obtain ⟨qc, qf, qz, qs⟩ := bfacts hb; (try simp only [World.size_alloc, World.size_setCell, World.size_drew, World.heap_drewN] at qs); have za : w.heap.size < w'.heap.size := (by omega); have pa0 : w'.cell? ⟨w.heap.size, 0, none⟩ = some (.int .i64 r) := (by rw [qc _ _ (by first | assumption | (simp; done) | (simp; omega))]; first | assumption | (simp; done) | (simp [*]; done) | (simp [*, go_sem]; done)); have pa1 : w'.cell? ⟨w.heap.size, 1, none⟩ = some (.int .i64 d) := (by rw [qc _ _ (by first | assumption | (simp; done) | (simp; omega))]; first | assumption | (simp; done) | (simp [*]; done) | (simp [*, go_sem]; done)); have pa2 : w'.cell? ⟨w.heap.size, 2, none⟩ = some (.int .i64 x) := (by rw [qc _ _ (by first | assumption | (simp; done) | (simp; omega))]; first | assumption | (simp; done) | (simp [*]; done) | (simp [*, go_sem]; done)); have zb : wr.heap.size < w'.heap.size := (by omega); have pb0 : w'.cell? ⟨wr.heap.size, 0, none⟩ = some (.int .i64 (tA z k)) := (by rw [qc _ _ (by first | assumption | (simp; done) | (simp; omega))]; first | assumption | (simp; done) | (simp [*]; done) | (simp [*, go_sem]; done)); have pb1 : w'.cell? ⟨wr.heap.size, 1, none⟩ = some (.int .i64 (tB z k)) := (by rw [qc _ _ (by first | assumption | (simp; done) | (simp; omega))]; first | assumption | (simp; done) | (simp [*]; done) | (simp [*, go_sem]; done)); have pb2 : w'.cell? ⟨wr.heap.size, 2, none⟩ = some (.int .i64 (tC z k)) := (by rw [qc _ _ (by first | assumption | (simp; done) | (simp; omega))]; first | assumption | (simp; done) | (simp [*]; done) | (simp [*, go_sem]; done))))
        go_roundw
        case rel =>
          refine ⟨k + 1, by omega, by go_num, by (rw [HN.out]) <;> rfl, ?_⟩
          repeat' (first
            | (with_reducible exact Below.refl _ _)
            | (with_reducible assumption)
            | (with_reducible refine Below.alloc ?_ ?_ _)
            | (with_reducible refine Below.drew ?_)
            | (with_reducible refine bdrewN ?_ _)
            | (with_reducible refine Below.setCell ?_ ?_ _)
            | (with_reducible refine bthen (by assumption) ?_ ?_)
            | go_size)
        case measure => simp [intOf]; omega
      · have HN := Lib.hid (allowTo_in (v := v) hap)
        generalize allowTo z r d x v k = s at *
        rcases Int.lt_or_le (tC z k) s with ht | ht
        · have e : min s (tC z k) = tC z k := by omega
          rw [e] at HN
          clear e
          go_wp2_with
            (first
              | (go_at_call 71; go_call (applies_c); rintro e w' ⟨rfl, hb⟩; obtain ⟨qc, qf, qz, qs⟩ := bfacts hb; (try simp only [World.size_alloc, World.size_setCell, World.size_drew, World.heap_drewN] at qs); have za : w.heap.size < w'.heap.size := (by omega); have pa0 : w'.cell? ⟨w.heap.size, 0, none⟩ = some (.int .i64 r) := (by rw [qc _ _ (by first | assumption | (simp; done) | (simp; omega))]; first | assumption | (simp; done) | (simp [*]; done) | (simp [*, go_sem]; done)); have pa1 : w'.cell? ⟨w.heap.size, 1, none⟩ = some (.int .i64 d) := (by rw [qc _ _ (by first | assumption | (simp; done) | (simp; omega))]; first | assumption | (simp; done) | (simp [*]; done) | (simp [*, go_sem]; done)); have pa2 : w'.cell? ⟨w.heap.size, 2, none⟩ = some (.int .i64 x) := (by rw [qc _ _ (by first | assumption | (simp; done) | (simp; omega))]; first | assumption | (simp; done) | (simp [*]; done) | (simp [*, go_sem]; done)); have zb : wr.heap.size < w'.heap.size := (by omega); have pb0 : w'.cell? ⟨wr.heap.size, 0, none⟩ = some (.int .i64 (tA z k)) := (by rw [qc _ _ (by first | assumption | (simp; done) | (simp; omega))]; first | assumption | (simp; done) | (simp [*]; done) | (simp [*, go_sem]; done)); have pb1 : w'.cell? ⟨wr.heap.size, 1, none⟩ = some (.int .i64 (tB z k)) := (by rw [qc _ _ (by first | assumption | (simp; done) | (simp; omega))]; first | assumption | (simp; done) | (simp [*]; done) | (simp [*, go_sem]; done)); have pb2 : w'.cell? ⟨wr.heap.size, 2, none⟩ = some (.int .i64 (tC z k)) := (by rw [qc _ _ (by first | assumption | (simp; done) | (simp; omega))]; first | assumption | (simp; done) | (simp [*]; done) | (simp [*, go_sem]; done))))
          go_roundw
          case rel =>
            refine ⟨k + 1, by omega, by go_num, by (rw [HN.out]) <;> rfl, ?_⟩
            repeat' (first
              | (with_reducible exact Below.refl _ _)
              | (with_reducible assumption)
              | (with_reducible refine Below.alloc ?_ ?_ _)
              | (with_reducible refine Below.drew ?_)
              | (with_reducible refine bdrewN ?_ _)
              | (with_reducible refine Below.setCell ?_ ?_ _)
              | (with_reducible refine bthen (by assumption) ?_ ?_)
              | go_size)
          case measure => simp [intOf]; omega
        · have e : min s (tC z k) = s := by omega
          rw [e] at HN
          clear e
          go_wp2_with
            (first
              | (go_at_call 71; go_call (applies_c); rintro e w' ⟨rfl, hb⟩; obtain ⟨qc, qf, qz, qs⟩ := bfacts hb; (try simp only [World.size_alloc, World.size_setCell, World.size_drew, World.heap_drewN] at qs); have za : w.heap.size < w'.heap.size := (by omega); have pa0 : w'.cell? ⟨w.heap.size, 0, none⟩ = some (.int .i64 r) := (by rw [qc _ _ (by first | assumption | (simp; done) | (simp; omega))]; first | assumption | (simp; done) | (simp [*]; done) | (simp [*, go_sem]; done)); have pa1 : w'.cell? ⟨w.heap.size, 1, none⟩ = some (.int .i64 d) := (by rw [qc _ _ (by first | assumption | (simp; done) | (simp; omega))]; first | assumption | (simp; done) | (simp [*]; done) | (simp [*, go_sem]; done)); have pa2 : w'.cell? ⟨w.heap.size, 2, none⟩ = some (.int .i64 x) := (by rw [qc _ _ (by first | assumption | (simp; done) | (simp; omega))]; first | assumption | (simp; done) | (simp [*]; done) | (simp [*, go_sem]; done)); have zb : wr.heap.size < w'.heap.size := (by omega); have pb0 : w'.cell? ⟨wr.heap.size, 0, none⟩ = some (.int .i64 (tA z k)) := (by rw [qc _ _ (by first | assumption | (simp; done) | (simp; omega))]; first | assumption | (simp; done) | (simp [*]; done) | (simp [*, go_sem]; done)); have pb1 : w'.cell? ⟨wr.heap.size, 1, none⟩ = some (.int .i64 (tB z k)) := (by rw [qc _ _ (by first | assumption | (simp; done) | (simp; omega))]; first | assumption | (simp; done) | (simp [*]; done) | (simp [*, go_sem]; done)); have pb2 : w'.cell? ⟨wr.heap.size, 2, none⟩ = some (.int .i64 (tC z k)) := (by rw [qc _ _ (by first | assumption | (simp; done) | (simp; omega))]; first | assumption | (simp; done) | (simp [*]; done) | (simp [*, go_sem]; done))))
          go_roundw
          case rel =>
            refine ⟨k + 1, by omega, by go_num, by (rw [HN.out]) <;> rfl, ?_⟩
            repeat' (first
              | (with_reducible exact Below.refl _ _)
              | (with_reducible assumption)
              | (with_reducible refine Below.alloc ?_ ?_ _)
              | (with_reducible refine Below.drew ?_)
              | (with_reducible refine bdrewN ?_ _)
              | (with_reducible refine Below.setCell ?_ ?_ _)
              | (with_reducible refine bthen (by assumption) ?_ ?_)
              | go_size)
          case measure => simp [intOf]; omega
    · obtain rfl : k = n := by omega
      go_wp2
      go_ret
      exact ⟨rfl, hB1.trans (hBr.mono hB1.size)⟩
set_option maxHeartbeats 2000000 in
theorem specSpeedAllowed_c (A : Option Addr) (n c : Nat) (z : List Int) (r d x v : Int) (hz : z.length = n * 3) (hn : n ≤ 1048576) (w : World) (hr : RowI w A z) : Calls Try.prog 26 #[.slice A n c, .agg #[.int .i64 r, .int .i64 d, .int .i64 x], .int .i64 v] w fun e w' => e = .returned (.tuple #[.int .i64 (fAllow z n r d x v).1, .int .i64 (fAllow z n r d x v).2]) ∧ Below w.heap.size w w' := by
  have hr1 := hr.alloc (.cells #[.int .i64 r, .int .i64 d, .int .i64 x] 40)
  cases hl : limsB z n <;> cases hok : hourOk r d x <;> cases hv : inB v 0 20000
  all_goals
    try have HL := Lib.hid (limsB_true hl).2
    try obtain ⟨⟨x0, x1⟩, ⟨hd0, hd1⟩, v0, v1⟩ := hourOk_true hok
    have HF := Lib.hid (show fAllow z n r d x v = if limsB z n then (if hourOk r d x then (if inB v 0 20000 then (allowTo z r d x v n, 0) else (0, 2)) else (0, 1)) else (0, 1) from rfl)
    go_enter Try.func26, Try.ntmps26
    go_wp2_with
      (first
        | (go_at_call 53; (apply Calls.mono; focus ((apply (l08Limits_c _ n _ z hz hn)); (all_goals (first | (with_reducible assumption) | omega | (repeat (first | (with_reducible assumption) | (with_reducible exact RowI.new _ _ _) | ((with_reducible refine RowI.new_at ?_); (simp; done)) | (with_reducible refine RowI.drewN ?_ _) | (with_reducible refine RowI.drew ?_) | (with_reducible refine RowI.alloc ?_ _) | (with_reducible refine RowI.below ?_ (by with_reducible assumption)) | (simp [*]; done))))); done)); rintro e w' ⟨rfl, hb⟩; obtain ⟨qc, qf, qz, qs⟩ := bfacts hb; (try simp only [World.size_alloc, World.size_setCell, World.size_drew, World.heap_drewN] at qs); have za : w.heap.size < w'.heap.size := (by omega); have pa0 : w'.cell? ⟨w.heap.size, 0, none⟩ = some (.int .i64 r) := (by rw [qc _ _ (by first | assumption | (simp; done) | (simp; omega))]; first | assumption | (simp; done) | (simp [*]; done) | (simp [*, go_sem]; done)); have pa1 : w'.cell? ⟨w.heap.size, 1, none⟩ = some (.int .i64 d) := (by rw [qc _ _ (by first | assumption | (simp; done) | (simp; omega))]; first | assumption | (simp; done) | (simp [*]; done) | (simp [*, go_sem]; done)); have pa2 : w'.cell? ⟨w.heap.size, 2, none⟩ = some (.int .i64 x) := (by rw [qc _ _ (by first | assumption | (simp; done) | (simp; omega))]; first | assumption | (simp; done) | (simp [*]; done) | (simp [*, go_sem]; done)))
        | (go_at_call 54; go_call (l08One_c r d x); rintro e w' ⟨rfl, rfl⟩)
        | (go_at_call 55; go_call (l08Speed_c _ _); rintro e w' ⟨rfl, rfl⟩)
        | (go_at_call 56; (apply Calls.mono; focus ((apply (l08Allowed_c _ n _ z r d x v hz hn (by assumption) (by assumption))); (all_goals (first | (with_reducible assumption) | omega | (repeat (first | (with_reducible assumption) | (with_reducible exact RowI.new _ _ _) | ((with_reducible refine RowI.new_at ?_); (simp; done)) | (with_reducible refine RowI.drewN ?_ _) | (with_reducible refine RowI.drew ?_) | (with_reducible refine RowI.alloc ?_ _) | (with_reducible refine RowI.below ?_ (by with_reducible assumption)) | (simp [*]; done))))); done)); rintro e w' ⟨rfl, hb⟩; obtain ⟨qc, qf, qz, qs⟩ := bfacts hb; (try simp only [World.size_alloc, World.size_setCell, World.size_drew, World.heap_drewN] at qs); have za : w.heap.size < w'.heap.size := (by omega); have pa0 : w'.cell? ⟨w.heap.size, 0, none⟩ = some (.int .i64 r) := (by rw [qc _ _ (by first | assumption | (simp; done) | (simp; omega))]; first | assumption | (simp; done) | (simp [*]; done) | (simp [*, go_sem]; done)); have pa1 : w'.cell? ⟨w.heap.size, 1, none⟩ = some (.int .i64 d) := (by rw [qc _ _ (by first | assumption | (simp; done) | (simp; omega))]; first | assumption | (simp; done) | (simp [*]; done) | (simp [*, go_sem]; done)); have pa2 : w'.cell? ⟨w.heap.size, 2, none⟩ = some (.int .i64 x) := (by rw [qc _ _ (by first | assumption | (simp; done) | (simp; omega))]; first | assumption | (simp; done) | (simp [*]; done) | (simp [*, go_sem]; done))))
    go_returns
    refine ⟨by rw [HF.out]; simp [hl, hok, hv], ?_⟩
    repeat' (first
      | (with_reducible exact Below.refl _ _)
      | (with_reducible assumption)
      | (with_reducible refine Below.alloc ?_ ?_ _)
      | (with_reducible refine Below.drew ?_)
      | (with_reducible refine bdrewN ?_ _)
      | (with_reducible refine Below.setCell ?_ ?_ _)
      | (with_reducible refine bthen (by assumption) ?_ ?_)
      | go_size)
set_option maxHeartbeats 2000000 in
theorem implSpeedAllowed_c (A : Option Addr) (n c : Nat) (z : List Int) (r d x v : Int) (hz : z.length = n * 3) (hn : n ≤ 1048576) (w : World) (hr : RowI w A z) : Calls Try.prog 22 #[.slice A n c, .agg #[.int .i64 r, .int .i64 d, .int .i64 x], .int .i64 v] w fun e w' => e = .returned (.tuple #[.int .i64 (fAllow z n r d x v).1, .int .i64 (fAllow z n r d x v).2]) ∧ Below w.heap.size w w' := by
  have hr1 := hr.alloc (.cells #[.int .i64 r, .int .i64 d, .int .i64 x] 40)
  cases hl : limsB z n <;> cases hok : hourOk r d x <;> cases hv : inB v 0 20000
  all_goals
    try have HL := Lib.hid (limsB_true hl).2
    try obtain ⟨⟨x0, x1⟩, ⟨hd0, hd1⟩, v0, v1⟩ := hourOk_true hok
    have HF := Lib.hid (show fAllow z n r d x v = if limsB z n then (if hourOk r d x then (if inB v 0 20000 then (allowTo z r d x v n, 0) else (0, 2)) else (0, 1)) else (0, 1) from rfl)
    go_enter Try.func22, Try.ntmps22
    go_wp2_with
      (first
        | (go_at_call 48; (apply Calls.mono; focus ((apply (implValidLimits_c _ n _ z hz hn)); (all_goals (first | (with_reducible assumption) | omega | (repeat (first | (with_reducible assumption) | (with_reducible exact RowI.new _ _ _) | ((with_reducible refine RowI.new_at ?_); (simp; done)) | (with_reducible refine RowI.drewN ?_ _) | (with_reducible refine RowI.drew ?_) | (with_reducible refine RowI.alloc ?_ _) | (with_reducible refine RowI.below ?_ (by with_reducible assumption)) | (simp [*]; done))))); done)); rintro e w' ⟨rfl, hb⟩; obtain ⟨qc, qf, qz, qs⟩ := bfacts hb; (try simp only [World.size_alloc, World.size_setCell, World.size_drew, World.heap_drewN] at qs); have za : w.heap.size < w'.heap.size := (by omega); have pa0 : w'.cell? ⟨w.heap.size, 0, none⟩ = some (.int .i64 r) := (by rw [qc _ _ (by first | assumption | (simp; done) | (simp; omega))]; first | assumption | (simp; done) | (simp [*]; done) | (simp [*, go_sem]; done)); have pa1 : w'.cell? ⟨w.heap.size, 1, none⟩ = some (.int .i64 d) := (by rw [qc _ _ (by first | assumption | (simp; done) | (simp; omega))]; first | assumption | (simp; done) | (simp [*]; done) | (simp [*, go_sem]; done)); have pa2 : w'.cell? ⟨w.heap.size, 2, none⟩ = some (.int .i64 x) := (by rw [qc _ _ (by first | assumption | (simp; done) | (simp; omega))]; first | assumption | (simp; done) | (simp [*]; done) | (simp [*, go_sem]; done)))
        | (go_at_call 49; go_call (validHour_c _ _ _ _); rintro e w' ⟨rfl, hb⟩; obtain ⟨qc, qf, qz, qs⟩ := bfacts hb; (try simp only [World.size_alloc, World.size_setCell, World.size_drew, World.heap_drewN] at qs); have za : w.heap.size < w'.heap.size := (by omega); have pa0 : w'.cell? ⟨w.heap.size, 0, none⟩ = some (.int .i64 r) := (by rw [qc _ _ (by first | assumption | (simp; done) | (simp; omega))]; first | assumption | (simp; done) | (simp [*]; done) | (simp [*, go_sem]; done)); have pa1 : w'.cell? ⟨w.heap.size, 1, none⟩ = some (.int .i64 d) := (by rw [qc _ _ (by first | assumption | (simp; done) | (simp; omega))]; first | assumption | (simp; done) | (simp [*]; done) | (simp [*, go_sem]; done)); have pa2 : w'.cell? ⟨w.heap.size, 2, none⟩ = some (.int .i64 x) := (by rw [qc _ _ (by first | assumption | (simp; done) | (simp; omega))]; first | assumption | (simp; done) | (simp [*]; done) | (simp [*, go_sem]; done)))
        | (go_at_call 50; go_call (isPace_c _ _); rintro e w' ⟨rfl, rfl⟩)
        | (go_at_call 51; (apply Calls.mono; focus ((apply (allowed_c _ n _ z r d x v hz hn HL.out (by assumption) (by assumption))); (all_goals (first | (with_reducible assumption) | omega | (repeat (first | (with_reducible assumption) | (with_reducible exact RowI.new _ _ _) | ((with_reducible refine RowI.new_at ?_); (simp; done)) | (with_reducible refine RowI.drewN ?_ _) | (with_reducible refine RowI.drew ?_) | (with_reducible refine RowI.alloc ?_ _) | (with_reducible refine RowI.below ?_ (by with_reducible assumption)) | (simp [*]; done))))); done)); rintro e w' ⟨rfl, hb⟩; obtain ⟨qc, qf, qz, qs⟩ := bfacts hb; (try simp only [World.size_alloc, World.size_setCell, World.size_drew, World.heap_drewN] at qs); have za : w.heap.size < w'.heap.size := (by omega); have pa0 : w'.cell? ⟨w.heap.size, 0, none⟩ = some (.int .i64 r) := (by rw [qc _ _ (by first | assumption | (simp; done) | (simp; omega))]; first | assumption | (simp; done) | (simp [*]; done) | (simp [*, go_sem]; done)); have pa1 : w'.cell? ⟨w.heap.size, 1, none⟩ = some (.int .i64 d) := (by rw [qc _ _ (by first | assumption | (simp; done) | (simp; omega))]; first | assumption | (simp; done) | (simp [*]; done) | (simp [*, go_sem]; done)); have pa2 : w'.cell? ⟨w.heap.size, 2, none⟩ = some (.int .i64 x) := (by rw [qc _ _ (by first | assumption | (simp; done) | (simp; omega))]; first | assumption | (simp; done) | (simp [*]; done) | (simp [*, go_sem]; done))))
    go_returns
    refine ⟨by rw [HF.out]; simp [hl, hok, hv], ?_⟩
    repeat' (first
      | (with_reducible exact Below.refl _ _)
      | (with_reducible assumption)
      | (with_reducible refine Below.alloc ?_ ?_ _)
      | (with_reducible refine Below.drew ?_)
      | (with_reducible refine bdrewN ?_ _)
      | (with_reducible refine Below.setCell ?_ ?_ _)
      | (with_reducible refine bthen (by assumption) ?_ ?_)
      | go_size)
end Go.Proofs.Yteddchnmjppdeaa
