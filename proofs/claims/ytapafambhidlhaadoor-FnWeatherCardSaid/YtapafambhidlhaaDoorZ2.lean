/- SandFor and LongestGood. -/
import Derived.Test.YtapafambhidlhaaDoorZ
namespace Go.Proofs.YtapafambhidlhaaDoor
open Go.ChangeShapes Go.WideShapes Go.ChangeAt Go.RowKit
set_option linter.unusedVariables false
set_option linter.unusedSimpArgs false

def sandAt (z : List Int) (e : Int) (k : Nat) : Int := if kindB 2 (tA z k) (tB z k) (tC z k) then e else if kindB 1 (tA z k) (tB z k) (tC z k) then e / 2 else 0
def sandTo (z : List Int) (e : Int) : Nat → Int
  | 0 => 0
  | k + 1 => sandTo z e k + sandAt z e k
theorem sandAt_bd {z : List Int} {e : Int} (e0 : 0 ≤ e) (e1 : e ≤ 1000) (k : Nat) : 0 ≤ sandAt z e k ∧ sandAt z e k ≤ 1000 := by
  unfold sandAt
  split
  · omega
  · split <;> omega
theorem sandTo_bd {z : List Int} {e : Int} (e0 : 0 ≤ e) (e1 : e ≤ 1000) : ∀ k : Nat, 0 ≤ sandTo z e k ∧ sandTo z e k ≤ 1000 * k
  | 0 => by simp [sandTo]
  | k + 1 => by
    have h1 := sandTo_bd e0 e1 k (z := z)
    have h2 := sandAt_bd e0 e1 k (z := z)
    simp only [sandTo]
    omega
def fSand (z : List Int) (n : Nat) (e : Int) : Int × Int := if hoursB z n then (if inB e 0 1000 then (sandTo z e n, 0) else (0, 2)) else (0, 1)
/-- The first of the most hours so far, their number, and where the present ones began. -/
def longSt (z : List Int) (g : Int) : Nat → Int × Int × Int
  | 0 => (0, 0, 0)
  | k + 1 => if gripI (tA z k) (tB z k) (tC z k) < g then ((longSt z g k).1, (longSt z g k).2.1, (k : Int) + 1) else if (longSt z g k).2.1 < (k : Int) + 1 - (longSt z g k).2.2 then ((longSt z g k).2.2, (k : Int) + 1 - (longSt z g k).2.2, (longSt z g k).2.2) else longSt z g k
theorem longSt_bd (z : List Int) (g : Int) : ∀ k : Nat, (0 ≤ (longSt z g k).1 ∧ (longSt z g k).1 ≤ k) ∧ (0 ≤ (longSt z g k).2.1 ∧ (longSt z g k).2.1 ≤ k) ∧ (0 ≤ (longSt z g k).2.2 ∧ (longSt z g k).2.2 ≤ k)
  | 0 => by simp [longSt]
  | k + 1 => by
    have h := longSt_bd z g k
    simp only [longSt]
    split
    · simp only []
      omega
    · split
      · simp only []
        omega
      · omega
theorem longSt_low {z : List Int} {g : Int} {k : Nat} (h : gripI (tA z k) (tB z k) (tC z k) < g) : longSt z g (k + 1) = ((longSt z g k).1, (longSt z g k).2.1, (k : Int) + 1) := by rw [longSt, if_pos h]
theorem longSt_best {z : List Int} {g : Int} {k : Nat} (h : ¬ gripI (tA z k) (tB z k) (tC z k) < g) (h' : (longSt z g k).2.1 < (k : Int) + 1 - (longSt z g k).2.2) : longSt z g (k + 1) = ((longSt z g k).2.2, (k : Int) + 1 - (longSt z g k).2.2, (longSt z g k).2.2) := by rw [longSt, if_neg h, if_pos h']
theorem longSt_on {z : List Int} {g : Int} {k : Nat} (h : ¬ gripI (tA z k) (tB z k) (tC z k) < g) (h' : ¬ (longSt z g k).2.1 < (k : Int) + 1 - (longSt z g k).2.2) : longSt z g (k + 1) = ((longSt z g k).1, (longSt z g k).2.1, (longSt z g k).2.2) := by rw [longSt, if_neg h, if_neg h']
def fLong (z : List Int) (n : Nat) (g : Int) : Int × Int × Int := if hoursB z n then (if inB g 0 1000 then (if (longSt z g n).2.1 = 0 then (0, 0, 3) else ((longSt z g n).1, (longSt z g n).2.1, 0)) else (0, 0, 2)) else (0, 0, 1)
set_option maxHeartbeats 2000000 in
theorem implLongestGood_c (A : Option Addr) (n c : Nat) (z : List Int) (e : Int) (hz : z.length = n * 3) (hn : n ≤ 1048576) (w : World) (hr : RowI w A z) : Calls Tryd.prog 14 #[.slice A n c, .int .i64 e] w fun r w' => r = .returned (.tuple #[.int .i64 (fLong z n e).1, .int .i64 (fLong z n e).2.1, .int .i64 (fLong z n e).2.2]) ∧ Below w.heap.size w w' := by
  cases hok : hoursB z n
  · have HF := Lib.hid (show fLong z n e = (0, 0, 1) by simp [fLong, hok])
    go_enter Tryd.func14, Tryd.ntmps14
    go_wp2_with (go_at_call 28; (refine (implValidHours_c _ n _ z hz hn _ hr).mono ?_); rintro e' w1 ⟨rfl, hb1⟩; have hr1 := hr.below hb1; have z1 : w.heap.size ≤ w1.heap.size := hb1.size)
    go_returns
    refine ⟨by (rw [HF.out]) <;> rfl, ?_⟩
    repeat' (first
      | (with_reducible exact Below.refl _ _)
      | (with_reducible assumption)
      | (with_reducible refine Below.alloc ?_ ?_ _)
      | (with_reducible refine Below.drew ?_)
      | (with_reducible refine bdrewN ?_ _)
      | (with_reducible refine Below.setCell ?_ ?_ _)
      | (with_reducible refine bthen (by assumption) ?_ ?_)
      | go_size)
  cases he : inB e 0 1000
  · have HF := Lib.hid (show fLong z n e = (0, 0, 2) by simp [fLong, hok, he])
    go_enter Tryd.func14, Tryd.ntmps14
    go_wp2_with (go_at_call 28; (refine (implValidHours_c _ n _ z hz hn _ hr).mono ?_); rintro e' w1 ⟨rfl, hb1⟩; have hr1 := hr.below hb1; have z1 : w.heap.size ≤ w1.heap.size := hb1.size)
    go_wp2_with (go_at_call 24; go_call (within_c _ _ _ _); rintro e' w' ⟨rfl, rfl⟩)
    go_returns
    refine ⟨by (rw [HF.out]) <;> rfl, ?_⟩
    repeat' (first
      | (with_reducible exact Below.refl _ _)
      | (with_reducible assumption)
      | (with_reducible refine Below.alloc ?_ ?_ _)
      | (with_reducible refine Below.drew ?_)
      | (with_reducible refine bdrewN ?_ _)
      | (with_reducible refine Below.setCell ?_ ?_ _)
      | (with_reducible refine bthen (by assumption) ?_ ?_)
      | go_size)
  obtain ⟨e0, e1⟩ := inB_true he
  have HALL := Lib.hid (hoursB_true hok)
  have hn8 := HALL.out.1
  go_enter Tryd.func14, Tryd.ntmps14
  go_wp2_with (go_at_call 28; (refine (implValidHours_c _ n _ z hz hn _ hr).mono ?_); rintro e' w1 ⟨rfl, hb1⟩; have hr1 := hr.below hb1; have z1 : w.heap.size ≤ w1.heap.size := hb1.size)
  go_wp2_with (go_at_call 24; go_call (within_c _ _ _ _); rintro e' w' ⟨rfl, rfl⟩)
  have HG := Lib.hid (fun k : Nat => gripI_bd (tA z k) (tB z k) (tC z k))
  go_loopw [7, 8, 9, 20] (fun a m f i wr => ∃ k : Nat, k ≤ n ∧ i = .int .i64 k ∧ a = .int .i64 (longSt z e k).1 ∧ m = .int .i64 (longSt z e k).2.1 ∧ f = .int .i64 ((k : Int) - (longSt z e k).2.2) ∧ Below w1.heap.size w1 wr) (fun _ _ _ i _ => n - (intOf i).toNat)
  case atStart => exact ⟨0, by omega, rfl, rfl, rfl, rfl, Below.refl _ _⟩
  case round =>
    obtain ⟨k, hk, rfl, rfl, rfl, rfl, hBr⟩ := hrel
    obtain ⟨⟨p0, p1⟩, ⟨q0, q1⟩, u0, u1⟩ := longSt_bd z e k
    by_cases hlt : k < n
    · obtain ⟨b, off, rfl, hbb, c1, c2, c3⟩ := (hr1.below hBr).tri hz hlt
      have i1 : (k : Int) < n := by omega
      obtain ⟨⟨x0, x1⟩, ⟨y0, y1⟩, v0, v1⟩ := hourOk_true (HALL.out.2 k hlt)
      obtain ⟨g0, g1⟩ := HG.out k
      have hsr := hBr.size
      by_cases hl : gripI (tA z k) (tB z k) (tC z k) < e
      · have HN := Lib.hid (longSt_low hl)
        generalize (longSt z e k).1 = bb at *
        generalize (longSt z e k).2.1 = mm at *
        generalize (longSt z e k).2.2 = ff at *
        go_wp2_with
          (first
            | (go_at_call 21; go_call (grip_c); rintro e w' ⟨rfl, hb⟩; obtain ⟨qc, qf, qz, qs⟩ := bfacts hb; (try simp only [World.size_alloc, World.size_setCell, World.size_drew, World.heap_drewN] at qs); have za : wr.heap.size < w'.heap.size := (by omega); have pa0 : w'.cell? ⟨wr.heap.size, 0, none⟩ = some (.int .i64 (tA z k)) := (by rw [qc _ _ (by first | assumption | (simp; done) | (simp; omega))]; first | assumption | (simp; done) | (simp [*]; done) | (simp [*, go_sem]; done)); have pa1 : w'.cell? ⟨wr.heap.size, 1, none⟩ = some (.int .i64 (tB z k)) := (by rw [qc _ _ (by first | assumption | (simp; done) | (simp; omega))]; first | assumption | (simp; done) | (simp [*]; done) | (simp [*, go_sem]; done)); have pa2 : w'.cell? ⟨wr.heap.size, 2, none⟩ = some (.int .i64 (tC z k)) := (by rw [qc _ _ (by first | assumption | (simp; done) | (simp; omega))]; first | assumption | (simp; done) | (simp [*]; done) | (simp [*, go_sem]; done))))
        go_roundw
        case rel =>
          refine ⟨k + 1, by omega, by go_num, by (rw [HN.out]) <;> (first | rfl | (simp; done) | (simp; omega)), by (rw [HN.out]) <;> (first | rfl | (simp; done) | (simp; omega)), by (rw [HN.out]) <;> (first | rfl | (simp; done) | (simp; omega)), ?_⟩
          repeat' (first
            | (with_reducible exact Below.refl _ _)
            | (with_reducible assumption)
            | (with_reducible refine Below.alloc ?_ ?_ _)
            | (with_reducible refine Below.drew ?_)
            | (with_reducible refine bdrewN ?_ _)
            | (with_reducible refine Below.setCell ?_ ?_ _)
            | (with_reducible refine bthen (by assumption) ?_ ?_)
            | go_size)
        case measure => simp [intOf]; omega
      by_cases hm : (longSt z e k).2.1 < (k : Int) + 1 - (longSt z e k).2.2
      · have HN := Lib.hid (longSt_best hl hm)
        generalize (longSt z e k).1 = bb at *
        generalize (longSt z e k).2.1 = mm at *
        generalize (longSt z e k).2.2 = ff at *
        have hm2 : mm < (k : Int) - ff + 1 := by omega
        go_wp2_with
          (first
            | (go_at_call 21; go_call (grip_c); rintro e w' ⟨rfl, hb⟩; obtain ⟨qc, qf, qz, qs⟩ := bfacts hb; (try simp only [World.size_alloc, World.size_setCell, World.size_drew, World.heap_drewN] at qs); have za : wr.heap.size < w'.heap.size := (by omega); have pa0 : w'.cell? ⟨wr.heap.size, 0, none⟩ = some (.int .i64 (tA z k)) := (by rw [qc _ _ (by first | assumption | (simp; done) | (simp; omega))]; first | assumption | (simp; done) | (simp [*]; done) | (simp [*, go_sem]; done)); have pa1 : w'.cell? ⟨wr.heap.size, 1, none⟩ = some (.int .i64 (tB z k)) := (by rw [qc _ _ (by first | assumption | (simp; done) | (simp; omega))]; first | assumption | (simp; done) | (simp [*]; done) | (simp [*, go_sem]; done)); have pa2 : w'.cell? ⟨wr.heap.size, 2, none⟩ = some (.int .i64 (tC z k)) := (by rw [qc _ _ (by first | assumption | (simp; done) | (simp; omega))]; first | assumption | (simp; done) | (simp [*]; done) | (simp [*, go_sem]; done))))
        go_roundw
        case rel =>
          refine ⟨k + 1, by omega, by go_num, by (rw [HN.out]) <;> (first | rfl | (simp; done) | (simp; omega)), by (rw [HN.out]) <;> (first | rfl | (simp; done) | (simp; omega)), by (rw [HN.out]) <;> (first | rfl | (simp; done) | (simp; omega)), ?_⟩
          repeat' (first
            | (with_reducible exact Below.refl _ _)
            | (with_reducible assumption)
            | (with_reducible refine Below.alloc ?_ ?_ _)
            | (with_reducible refine Below.drew ?_)
            | (with_reducible refine bdrewN ?_ _)
            | (with_reducible refine Below.setCell ?_ ?_ _)
            | (with_reducible refine bthen (by assumption) ?_ ?_)
            | go_size)
        case measure => simp [intOf]; omega
      · have HN := Lib.hid (longSt_on hl hm)
        generalize (longSt z e k).1 = bb at *
        generalize (longSt z e k).2.1 = mm at *
        generalize (longSt z e k).2.2 = ff at *
        have hm2 : ¬ mm < (k : Int) - ff + 1 := by omega
        go_wp2_with
          (first
            | (go_at_call 21; go_call (grip_c); rintro e w' ⟨rfl, hb⟩; obtain ⟨qc, qf, qz, qs⟩ := bfacts hb; (try simp only [World.size_alloc, World.size_setCell, World.size_drew, World.heap_drewN] at qs); have za : wr.heap.size < w'.heap.size := (by omega); have pa0 : w'.cell? ⟨wr.heap.size, 0, none⟩ = some (.int .i64 (tA z k)) := (by rw [qc _ _ (by first | assumption | (simp; done) | (simp; omega))]; first | assumption | (simp; done) | (simp [*]; done) | (simp [*, go_sem]; done)); have pa1 : w'.cell? ⟨wr.heap.size, 1, none⟩ = some (.int .i64 (tB z k)) := (by rw [qc _ _ (by first | assumption | (simp; done) | (simp; omega))]; first | assumption | (simp; done) | (simp [*]; done) | (simp [*, go_sem]; done)); have pa2 : w'.cell? ⟨wr.heap.size, 2, none⟩ = some (.int .i64 (tC z k)) := (by rw [qc _ _ (by first | assumption | (simp; done) | (simp; omega))]; first | assumption | (simp; done) | (simp [*]; done) | (simp [*, go_sem]; done))))
        go_roundw
        case rel =>
          refine ⟨k + 1, by omega, by go_num, by (rw [HN.out]) <;> (first | rfl | (simp; done) | (simp; omega)), by (rw [HN.out]) <;> (first | rfl | (simp; done) | (simp; omega)), by (rw [HN.out]) <;> (first | rfl | (simp; done) | (simp; omega)), ?_⟩
          repeat' (first
            | (with_reducible exact Below.refl _ _)
            | (with_reducible assumption)
            | (with_reducible refine Below.alloc ?_ ?_ _)
            | (with_reducible refine Below.drew ?_)
            | (with_reducible refine bdrewN ?_ _)
            | (with_reducible refine Below.setCell ?_ ?_ _)
            | (with_reducible refine bthen (by assumption) ?_ ?_)
            | go_size)
        case measure => simp [intOf]; omega
    · obtain rfl : k = n := by omega
      by_cases hm : (longSt z e k).2.1 = 0
      · have HF := Lib.hid (show fLong z k e = (0, 0, 3) by simp [fLong, hok, he, hm])
        go_wp2
        go_returns
        refine ⟨by (rw [HF.out]) <;> rfl, ?_⟩
        repeat' (first
          | (with_reducible exact Below.refl _ _)
          | (with_reducible assumption)
          | (with_reducible refine Below.alloc ?_ ?_ _)
          | (with_reducible refine Below.drew ?_)
          | (with_reducible refine bdrewN ?_ _)
          | (with_reducible refine Below.setCell ?_ ?_ _)
          | (with_reducible refine bthen (by assumption) ?_ ?_)
          | go_size)
      · have HF := Lib.hid (show fLong z k e = ((longSt z e k).1, (longSt z e k).2.1, 0) by simp [fLong, hok, he, hm])
        go_wp2
        go_returns
        refine ⟨by (rw [HF.out]) <;> rfl, ?_⟩
        repeat' (first
          | (with_reducible exact Below.refl _ _)
          | (with_reducible assumption)
          | (with_reducible refine Below.alloc ?_ ?_ _)
          | (with_reducible refine Below.drew ?_)
          | (with_reducible refine bdrewN ?_ _)
          | (with_reducible refine Below.setCell ?_ ?_ _)
          | (with_reducible refine bthen (by assumption) ?_ ?_)
          | go_size)
end Go.Proofs.YtapafambhidlhaaDoor
