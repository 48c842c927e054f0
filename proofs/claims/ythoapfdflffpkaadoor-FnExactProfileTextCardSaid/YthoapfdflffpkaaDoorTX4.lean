/- HourText RopeText ProfileText. -/
import Derived.Test.YthoapfdflffpkaaDoorTX3
import Derived.Test.YthoapfdflffpkaaDoorR
import Derived.Test.YthoapfdflffpkaaDoorV
import Derived.Test.YthoapfdflffpkaaDoorW
namespace Go.Proofs.YthoapfdflffpkaaDoor
open Go.ChangeShapes Go.WideShapes Go.ChangeAt Go.RowKit
set_option linter.unusedVariables false
set_option linter.unusedSimpArgs false

theorem l08TextR (r d x : Int) (t : TypeId) (w0 : World) (b : Nat) (hb : w0.heap.size = b) : RowI (w0.alloc (.cells #[.int .i64 r, .int .i64 d, .int .i64 x] t)) (some ⟨b, 0, none⟩) [r, d, x] := by
  subst hb
  exact RowI.new w0 t [r, d, x]
theorem l08TextL_c (r d x : Int) (hv : ∀ k, k < ([r, d, x] : List Int).length → I64 (nth [r, d, x] k)) (b : Nat) (W : World) (hr : RowI W (some ⟨b, 0, none⟩) [r, d, x]) : Calls Tryd.prog 64 #[.slice (some ⟨b, 0, none⟩) 3 3] W fun e w' => e = .returned (.string ⟨(lstTo [r, d, x] 3).toArray⟩) ∧ Below W.heap.size W w' :=
  l01List_c (some ⟨b, 0, none⟩) 3 [r, d, x] (by simp) (by simp) hv _ hr
theorem l08TextT_c (r d x : Int) (hv : ∀ k, k < ([r, d, x] : List Int).length → -1000000000000 ≤ nth [r, d, x] k ∧ nth [r, d, x] k ≤ 1000000000000) (b : Nat) (W : World) (hr : RowI W (some ⟨b, 0, none⟩) [r, d, x]) (ht : Tab Tryd.prog W) : Calls Tryd.prog 41 #[.slice (some ⟨b, 0, none⟩) 3 3] W fun e w' => e = .returned (.string ⟨(lstTo [r, d, x] 3).toArray⟩) ∧ Below W.heap.size W w' :=
  listText_c (some ⟨b, 0, none⟩) 3 3 [r, d, x] rfl (by simp) (by simp) hv _ hr ht
set_option maxHeartbeats 1000000 in
theorem l08Text_c (r d x : Int) (p : Nat) (w : World) (hp : p < w.heap.size) (h0 : w.cell? ⟨p, 0, none⟩ = some (.int .i64 r)) (h1 : w.cell? ⟨p, 1, none⟩ = some (.int .i64 d)) (h2 : w.cell? ⟨p, 2, none⟩ = some (.int .i64 x)) (hv : ∀ k, k < ([r, d, x] : List Int).length → I64 (nth [r, d, x] k)) : Calls Tryd.prog 39 #[.pointer (some ⟨p, 0, none⟩)] w fun e w' => e = .returned (.string ⟨(lstTo [r, d, x] 3).toArray⟩) ∧ Below w.heap.size w w' := by
  have HV := Lib.hid hv
  clear hv
  go_enter Tryd.func39, Tryd.ntmps39
  go_wp2
  go_region_held3 (fun w' => w'.cell? ⟨p, 0, none⟩ = some (.int .i64 r) ∧ w'.cell? ⟨p, 1, none⟩ = some (.int .i64 d) ∧ w'.cell? ⟨p, 2, none⟩ = some (.int .i64 x) ∧ p < w'.heap.size) (simp [*, go_sem])
    (first
      | (go_at_call 64; (refine (l08TextL_c r d x HV.out _ _ (by first | exact l08TextR _ _ _ _ _ _ rfl | exact RowI.drew (l08TextR _ _ _ _ _ _ rfl) | exact RowI.drewN (l08TextR _ _ _ _ _ _ rfl) _)).mono ?_); rintro e w' ⟨rfl, hb⟩; obtain ⟨qc, qf, qz, qs⟩ := bfacts hb; (try simp only [World.size_alloc, World.size_setCell, World.size_drew, World.heap_drewN] at qs)))
  go_wp2
  go_returns
  refine ⟨by simp, ?_⟩
  repeat' (first
    | (with_reducible exact Below.refl _ _)
    | (with_reducible assumption)
    | (with_reducible refine Below.alloc ?_ ?_ _)
    | (with_reducible refine Below.drew ?_)
    | (with_reducible refine bdrewN ?_ _)
    | (with_reducible refine Below.setCell ?_ ?_ _)
    | (with_reducible refine bthen (by assumption) ?_ ?_)
    | go_size)
def txtHourText (r d x : Int) : List UInt8 := if hourOk r d x then lstTo [r, d, x] 3 else []
theorem inHourText {r d x : Int} (h : hourOk r d x = true) : ∀ k, k < ([r, d, x] : List Int).length → -1000000000000 ≤ nth [r, d, x] k ∧ nth [r, d, x] k ≤ 1000000000000 := by
  have := hourOk_true h
  intro k hk
  simp only [List.length_cons, List.length_nil] at hk
  have : k = 0 ∨ k = 1 ∨ k = 2 := by omega
  rcases this with rfl | rfl | rfl <;> simp [nth] <;> omega
set_option maxHeartbeats 1000000 in
theorem implHourText_c (r d x : Int) (w : World) (ht : Tab Tryd.prog w) : Calls Tryd.prog 12 #[.agg #[.int .i64 r, .int .i64 d, .int .i64 x]] w fun e w' => e = .returned (.string ⟨(txtHourText r d x).toArray⟩) ∧ Below w.heap.size w w' := by
  cases hok : hourOk r d x
  · have HF := Lib.hid (show txtHourText r d x = [] by simp [txtHourText, hok])
    go_enter Tryd.func12, Tryd.ntmps12
    go_wp2_with
      (first
        | (go_at_call 40; go_call (validHour_c _ _ _ _); rintro e w' ⟨rfl, hb⟩; obtain ⟨qc, qf, qz, qs⟩ := bfacts hb; (try simp only [World.size_alloc, World.size_setCell, World.size_drew, World.heap_drewN] at qs)))
    go_returns
    refine ⟨by (rw [HF.out]) <;> rfl, ?_⟩
    repeat' (first
      | (with_reducible exact Below.refl _ _)
      | (with_reducible assumption)
      | (with_reducible refine Below.alloc ?_ ?_ _)
      | (with_reducible refine Below.drew ?_)
      | (with_reducible refine bdrewN ?_ _)
      | (with_reducible refine Below.setCell ?_ ?_ _)
      | (with_reducible refine bthen (by assumption) ?_ ?_)
      | go_size)
  · have HF := Lib.hid (show txtHourText r d x = lstTo [r, d, x] 3 by simp [txtHourText, hok])
    have HV := Lib.hid (inHourText hok)
    have hBB : Below w.heap.size w (w.alloc (.cells #[.int .i64 r, .int .i64 d, .int .i64 x] 25)) := (Below.refl _ _).alloc (Nat.le_refl _) _
    go_enter Tryd.func12, Tryd.ntmps12
    go_wp2_with
      (first
        | (go_at_call 40; go_call (validHour_c _ _ _ _); rintro e w' ⟨rfl, hb⟩; obtain ⟨qc, qf, qz, qs⟩ := bfacts hb; (try simp only [World.size_alloc, World.size_setCell, World.size_drew, World.heap_drewN] at qs))
        | (go_at_call 41; (refine (l08TextT_c r d x HV.out _ _ (by first | exact l08TextR _ _ _ _ _ _ rfl | exact l08TextR _ _ _ _ _ _ (by simp)) (ht.below (((hBB.trans (hb.mono (by first | omega | (simp; done)))).alloc (by omega) _)))).mono ?_); rintro e w2 ⟨rfl, hb2⟩))
    go_returns
    refine ⟨by (rw [HF.out]) <;> rfl, ?_⟩
    exact ((hBB.trans (hb.mono (by first | omega | (simp; done)))).alloc (by have := hb.size; simp at this; omega) _).trans (hb2.mono (by have := hb.size; simp at this ⊢; omega))
set_option maxHeartbeats 1000000 in
theorem specHourText_c (r d x : Int) (w : World) : Calls Tryd.prog 10 #[.agg #[.int .i64 r, .int .i64 d, .int .i64 x]] w fun e w' => e = .returned (.string ⟨(txtHourText r d x).toArray⟩) ∧ Below w.heap.size w w' := by
  cases hok : hourOk r d x
  · have HF := Lib.hid (show txtHourText r d x = [] by simp [txtHourText, hok])
    go_enter Tryd.func10, Tryd.ntmps10
    go_wp2_with
      (first
        | (go_at_call 38; go_call (l08One_c r d x); rintro e w' ⟨rfl, rfl⟩))
    go_returns
    refine ⟨by (rw [HF.out]) <;> rfl, ?_⟩
    repeat' (first
      | (with_reducible exact Below.refl _ _)
      | (with_reducible assumption)
      | (with_reducible refine Below.alloc ?_ ?_ _)
      | (with_reducible refine Below.drew ?_)
      | (with_reducible refine bdrewN ?_ _)
      | (with_reducible refine Below.setCell ?_ ?_ _)
      | (with_reducible refine bthen (by assumption) ?_ ?_)
      | go_size)
  · have HF := Lib.hid (show txtHourText r d x = lstTo [r, d, x] 3 by simp [txtHourText, hok])
    have HV := Lib.hid (show ∀ k, k < ([r, d, x] : List Int).length → I64 (nth [r, d, x] k) from fun k hk => by
      have := inHourText hok k hk
      unfold I64
      omega)
    go_enter Tryd.func10, Tryd.ntmps10
    go_wp2_with
      (first
        | (go_at_call 38; go_call (l08One_c r d x); rintro e w' ⟨rfl, rfl⟩)
        | (go_at_call 39; (refine (l08Text_c r d x _ _ (by simp [*]) (by simp [*]) (by simp [*]) (by simp [*]) (HV.out)).mono ?_); rintro e w2 ⟨rfl, hb2⟩))
    go_returns
    refine ⟨by (rw [HF.out]) <;> rfl, ?_⟩
    first | exact ((Below.refl _ _).alloc (Nat.le_refl _) _).trans (hb2.mono (by simp; done)) | exact (bdrewN ((Below.refl w.heap.size w).alloc (Nat.le_refl _) _) _).trans (hb2.mono (by simp))
set_option maxHeartbeats 2000000 in
theorem walk_FnExactHourText (r d x : Int) (w : World) (_ : I64 r) (_ : I64 d) (_ : I64 x) (ht : Tab Tryd.prog w) : Calls Tryd.prog 3 #[.agg #[.int .i64 r, .int .i64 d, .int .i64 x]] w fun e w' => e = .returned (.bool true) ∧ Below w.heap.size w w' := by
  have hB0 : Below w.heap.size w (w.alloc (.cells #[.int .i64 r, .int .i64 d, .int .i64 x] 23)) := (Below.refl _ _).alloc (Nat.le_refl _) _
  have p0 : (w.alloc (.cells #[.int .i64 r, .int .i64 d, .int .i64 x] 23)).cell? ⟨w.heap.size, 0, none⟩ = some (.int .i64 r) := by simp
  have p1 : (w.alloc (.cells #[.int .i64 r, .int .i64 d, .int .i64 x] 23)).cell? ⟨w.heap.size, 1, none⟩ = some (.int .i64 d) := by simp
  have p2 : (w.alloc (.cells #[.int .i64 r, .int .i64 d, .int .i64 x] 23)).cell? ⟨w.heap.size, 2, none⟩ = some (.int .i64 x) := by simp
  have kl : w.heap.size < (w.alloc (.cells #[.int .i64 r, .int .i64 d, .int .i64 x] 23)).heap.size := by simp
  go_enter Tryd.func3, Tryd.ntmps3
  go_wp2_with (go_at_call 11; (refine (toHour_c _ _ _ _).mono ?_); rintro e w1 ⟨rfl, hb1⟩; have z1 : w.heap.size < w1.heap.size := Nat.lt_of_lt_of_le kl hb1.size; have ch1 : Below w.heap.size w w1 := hB0.trans (hb1.mono (Nat.le_of_lt kl)); have p0_1 := (hb1.cell (p := ⟨w.heap.size, 0, none⟩) kl).trans p0; have p1_1 := (hb1.cell (p := ⟨w.heap.size, 1, none⟩) kl).trans p1; have p2_1 := (hb1.cell (p := ⟨w.heap.size, 2, none⟩) kl).trans p2)
  go_wp2_with (go_at_call 10; (refine (specHourText_c _ _ _ _).mono ?_); rintro e w2 ⟨rfl, hb2⟩; have z2 : w.heap.size < w2.heap.size := Nat.lt_of_lt_of_le z1 hb2.size; have ch2 : Below w.heap.size w w2 := ch1.trans (hb2.mono (Nat.le_of_lt z1)); have p0_2 := (hb2.cell (p := ⟨w.heap.size, 0, none⟩) z1).trans p0_1; have p1_2 := (hb2.cell (p := ⟨w.heap.size, 1, none⟩) z1).trans p1_1; have p2_2 := (hb2.cell (p := ⟨w.heap.size, 2, none⟩) z1).trans p2_1)
  go_wp2_with (go_at_call 11; (refine (toHour_c _ _ _ _).mono ?_); rintro e w3 ⟨rfl, hb3⟩; have z3 : w.heap.size < w3.heap.size := Nat.lt_of_lt_of_le z2 hb3.size; have ch3 : Below w.heap.size w w3 := ch2.trans (hb3.mono (Nat.le_of_lt z2)); have p0_3 := (hb3.cell (p := ⟨w.heap.size, 0, none⟩) z2).trans p0_2; have p1_3 := (hb3.cell (p := ⟨w.heap.size, 1, none⟩) z2).trans p1_2; have p2_3 := (hb3.cell (p := ⟨w.heap.size, 2, none⟩) z2).trans p2_2)
  go_wp2_with (go_at_call 12; (refine (implHourText_c _ _ _ _ (ht.below ch3)).mono ?_); rintro e w4 ⟨rfl, hb4⟩; have z4 : w.heap.size < w4.heap.size := Nat.lt_of_lt_of_le z3 hb4.size; have ch4 : Below w.heap.size w w4 := ch3.trans (hb4.mono (Nat.le_of_lt z3)); have p0_4 := (hb4.cell (p := ⟨w.heap.size, 0, none⟩) z3).trans p0_3; have p1_4 := (hb4.cell (p := ⟨w.heap.size, 1, none⟩) z3).trans p1_3; have p2_4 := (hb4.cell (p := ⟨w.heap.size, 2, none⟩) z3).trans p2_3)
  go_returns
  exact ⟨by simp, ch4⟩
theorem l06TextR (a g c d : Int) (t : TypeId) (w0 : World) (b : Nat) (hb : w0.heap.size = b) : RowI (w0.alloc (.cells #[.int .i64 a, .int .i64 g, .int .i64 c, .int .i64 d] t)) (some ⟨b, 0, none⟩) [a, g, c, d] := by
  subst hb
  exact RowI.new w0 t [a, g, c, d]
theorem l06TextL_c (a g c d : Int) (hv : ∀ k, k < ([a, g, c, d] : List Int).length → I64 (nth [a, g, c, d] k)) (b : Nat) (W : World) (hr : RowI W (some ⟨b, 0, none⟩) [a, g, c, d]) : Calls Tryd.prog 64 #[.slice (some ⟨b, 0, none⟩) 4 4] W fun e w' => e = .returned (.string ⟨(lstTo [a, g, c, d] 4).toArray⟩) ∧ Below W.heap.size W w' :=
  l01List_c (some ⟨b, 0, none⟩) 4 [a, g, c, d] (by simp) (by simp) hv _ hr
theorem l06TextT_c (a g c d : Int) (hv : ∀ k, k < ([a, g, c, d] : List Int).length → -1000000000000 ≤ nth [a, g, c, d] k ∧ nth [a, g, c, d] k ≤ 1000000000000) (b : Nat) (W : World) (hr : RowI W (some ⟨b, 0, none⟩) [a, g, c, d]) (ht : Tab Tryd.prog W) : Calls Tryd.prog 41 #[.slice (some ⟨b, 0, none⟩) 4 4] W fun e w' => e = .returned (.string ⟨(lstTo [a, g, c, d] 4).toArray⟩) ∧ Below W.heap.size W w' :=
  listText_c (some ⟨b, 0, none⟩) 4 4 [a, g, c, d] rfl (by simp) (by simp) hv _ hr ht
set_option maxHeartbeats 1000000 in
theorem l06Text_c (a g c d : Int) (p : Nat) (w : World) (hp : p < w.heap.size) (h0 : w.cell? ⟨p, 0, none⟩ = some (.int .i64 a)) (h1 : w.cell? ⟨p, 1, none⟩ = some (.int .i64 g)) (h2 : w.cell? ⟨p, 2, none⟩ = some (.int .i64 c)) (h3 : w.cell? ⟨p, 3, none⟩ = some (.int .i64 d)) (hv : ∀ k, k < ([a, g, c, d] : List Int).length → I64 (nth [a, g, c, d] k)) : Calls Tryd.prog 43 #[.pointer (some ⟨p, 0, none⟩)] w fun e w' => e = .returned (.string ⟨(lstTo [a, g, c, d] 4).toArray⟩) ∧ Below w.heap.size w w' := by
  have HV := Lib.hid hv
  clear hv
  go_enter Tryd.func43, Tryd.ntmps43
  go_wp2
  go_region_held3 (fun w' => w'.cell? ⟨p, 0, none⟩ = some (.int .i64 a) ∧ w'.cell? ⟨p, 1, none⟩ = some (.int .i64 g) ∧ w'.cell? ⟨p, 2, none⟩ = some (.int .i64 c) ∧ w'.cell? ⟨p, 3, none⟩ = some (.int .i64 d) ∧ p < w'.heap.size) (simp [*, go_sem])
    (first
      | (go_at_call 64; (refine (l06TextL_c a g c d HV.out _ _ (by first | exact l06TextR _ _ _ _ _ _ _ rfl | exact RowI.drew (l06TextR _ _ _ _ _ _ _ rfl) | exact RowI.drewN (l06TextR _ _ _ _ _ _ _ rfl) _)).mono ?_); rintro e w' ⟨rfl, hb⟩; obtain ⟨qc, qf, qz, qs⟩ := bfacts hb; (try simp only [World.size_alloc, World.size_setCell, World.size_drew, World.heap_drewN] at qs)))
  go_wp2
  go_returns
  refine ⟨by simp, ?_⟩
  repeat' (first
    | (with_reducible exact Below.refl _ _)
    | (with_reducible assumption)
    | (with_reducible refine Below.alloc ?_ ?_ _)
    | (with_reducible refine Below.drew ?_)
    | (with_reducible refine bdrewN ?_ _)
    | (with_reducible refine Below.setCell ?_ ?_ _)
    | (with_reducible refine bthen (by assumption) ?_ ?_)
    | go_size)
def txtRopeText (a g c d : Int) : List UInt8 := if ropeOk a g c d then lstTo [a, g, c, d] 4 else []
theorem inRopeText {a g c d : Int} (h : ropeOk a g c d = true) : ∀ k, k < ([a, g, c, d] : List Int).length → -1000000000000 ≤ nth [a, g, c, d] k ∧ nth [a, g, c, d] k ≤ 1000000000000 := by
  have := ropeOk_true h
  intro k hk
  simp only [List.length_cons, List.length_nil] at hk
  have : k = 0 ∨ k = 1 ∨ k = 2 ∨ k = 3 := by omega
  rcases this with rfl | rfl | rfl | rfl <;> simp [nth] <;> omega
set_option maxHeartbeats 1000000 in
theorem implRopeText_c (a g c d : Int) (w : World) (ht : Tab Tryd.prog w) : Calls Tryd.prog 15 #[.agg #[.int .i64 a, .int .i64 g, .int .i64 c, .int .i64 d]] w fun e w' => e = .returned (.string ⟨(txtRopeText a g c d).toArray⟩) ∧ Below w.heap.size w w' := by
  cases hok : ropeOk a g c d
  · have HF := Lib.hid (show txtRopeText a g c d = [] by simp [txtRopeText, hok])
    go_enter Tryd.func15, Tryd.ntmps15
    go_wp2_with
      (first
        | (go_at_call 44; go_call (implValidRope_c _ _ _ _ _); rintro e w' ⟨rfl, hb⟩; obtain ⟨qc, qf, qz, qs⟩ := bfacts hb; (try simp only [World.size_alloc, World.size_setCell, World.size_drew, World.heap_drewN] at qs)))
    go_returns
    refine ⟨by (rw [HF.out]) <;> rfl, ?_⟩
    repeat' (first
      | (with_reducible exact Below.refl _ _)
      | (with_reducible assumption)
      | (with_reducible refine Below.alloc ?_ ?_ _)
      | (with_reducible refine Below.drew ?_)
      | (with_reducible refine bdrewN ?_ _)
      | (with_reducible refine Below.setCell ?_ ?_ _)
      | (with_reducible refine bthen (by assumption) ?_ ?_)
      | go_size)
  · have HF := Lib.hid (show txtRopeText a g c d = lstTo [a, g, c, d] 4 by simp [txtRopeText, hok])
    have HV := Lib.hid (inRopeText hok)
    have hBB : Below w.heap.size w (w.alloc (.cells #[.int .i64 a, .int .i64 g, .int .i64 c, .int .i64 d] 31)) := (Below.refl _ _).alloc (Nat.le_refl _) _
    go_enter Tryd.func15, Tryd.ntmps15
    go_wp2_with
      (first
        | (go_at_call 44; go_call (implValidRope_c _ _ _ _ _); rintro e w' ⟨rfl, hb⟩; obtain ⟨qc, qf, qz, qs⟩ := bfacts hb; (try simp only [World.size_alloc, World.size_setCell, World.size_drew, World.heap_drewN] at qs))
        | (go_at_call 41; (refine (l06TextT_c a g c d HV.out _ _ (by first | exact l06TextR _ _ _ _ _ _ _ rfl | exact l06TextR _ _ _ _ _ _ _ (by simp)) (ht.below (((hBB.trans (hb.mono (by first | omega | (simp; done)))).alloc (by omega) _)))).mono ?_); rintro e w2 ⟨rfl, hb2⟩))
    go_returns
    refine ⟨by (rw [HF.out]) <;> rfl, ?_⟩
    exact ((hBB.trans (hb.mono (by first | omega | (simp; done)))).alloc (by have := hb.size; simp at this; omega) _).trans (hb2.mono (by have := hb.size; simp at this ⊢; omega))
set_option maxHeartbeats 1000000 in
theorem specRopeText_c (a g c d : Int) (w : World) : Calls Tryd.prog 13 #[.agg #[.int .i64 a, .int .i64 g, .int .i64 c, .int .i64 d]] w fun e w' => e = .returned (.string ⟨(txtRopeText a g c d).toArray⟩) ∧ Below w.heap.size w w' := by
  cases hok : ropeOk a g c d
  · have HF := Lib.hid (show txtRopeText a g c d = [] by simp [txtRopeText, hok])
    go_enter Tryd.func13, Tryd.ntmps13
    go_wp2_with
      (first
        | (go_at_call 42; go_call (l06Ok_c a g c d); rintro e w' ⟨rfl, rfl⟩))
    go_returns
    refine ⟨by (rw [HF.out]) <;> rfl, ?_⟩
    repeat' (first
      | (with_reducible exact Below.refl _ _)
      | (with_reducible assumption)
      | (with_reducible refine Below.alloc ?_ ?_ _)
      | (with_reducible refine Below.drew ?_)
      | (with_reducible refine bdrewN ?_ _)
      | (with_reducible refine Below.setCell ?_ ?_ _)
      | (with_reducible refine bthen (by assumption) ?_ ?_)
      | go_size)
  · have HF := Lib.hid (show txtRopeText a g c d = lstTo [a, g, c, d] 4 by simp [txtRopeText, hok])
    have HV := Lib.hid (show ∀ k, k < ([a, g, c, d] : List Int).length → I64 (nth [a, g, c, d] k) from fun k hk => by
      have := inRopeText hok k hk
      unfold I64
      omega)
    go_enter Tryd.func13, Tryd.ntmps13
    go_wp2_with
      (first
        | (go_at_call 42; go_call (l06Ok_c a g c d); rintro e w' ⟨rfl, rfl⟩)
        | (go_at_call 43; (refine (l06Text_c a g c d _ _ (by simp [*]) (by simp [*]) (by simp [*]) (by simp [*]) (by simp [*]) (HV.out)).mono ?_); rintro e w2 ⟨rfl, hb2⟩))
    go_returns
    refine ⟨by (rw [HF.out]) <;> rfl, ?_⟩
    first | exact ((Below.refl _ _).alloc (Nat.le_refl _) _).trans (hb2.mono (by simp; done)) | exact (bdrewN ((Below.refl w.heap.size w).alloc (Nat.le_refl _) _) _).trans (hb2.mono (by simp))
set_option maxHeartbeats 2000000 in
theorem walk_FnExactRopeText (a g c d : Int) (w : World) (_ : I64 a) (_ : I64 g) (_ : I64 c) (_ : I64 d) (ht : Tab Tryd.prog w) : Calls Tryd.prog 4 #[.agg #[.int .i64 a, .int .i64 g, .int .i64 c, .int .i64 d]] w fun e w' => e = .returned (.bool true) ∧ Below w.heap.size w w' := by
  have hB0 : Below w.heap.size w (w.alloc (.cells #[.int .i64 a, .int .i64 g, .int .i64 c, .int .i64 d] 29)) := (Below.refl _ _).alloc (Nat.le_refl _) _
  have p0 : (w.alloc (.cells #[.int .i64 a, .int .i64 g, .int .i64 c, .int .i64 d] 29)).cell? ⟨w.heap.size, 0, none⟩ = some (.int .i64 a) := by simp
  have p1 : (w.alloc (.cells #[.int .i64 a, .int .i64 g, .int .i64 c, .int .i64 d] 29)).cell? ⟨w.heap.size, 1, none⟩ = some (.int .i64 g) := by simp
  have p2 : (w.alloc (.cells #[.int .i64 a, .int .i64 g, .int .i64 c, .int .i64 d] 29)).cell? ⟨w.heap.size, 2, none⟩ = some (.int .i64 c) := by simp
  have p3 : (w.alloc (.cells #[.int .i64 a, .int .i64 g, .int .i64 c, .int .i64 d] 29)).cell? ⟨w.heap.size, 3, none⟩ = some (.int .i64 d) := by simp
  have kl : w.heap.size < (w.alloc (.cells #[.int .i64 a, .int .i64 g, .int .i64 c, .int .i64 d] 29)).heap.size := by simp
  go_enter Tryd.func4, Tryd.ntmps4
  go_wp2_with (go_at_call 14; (refine (toRope_c _ _ _ _ _).mono ?_); rintro e w1 ⟨rfl, hb1⟩; have z1 : w.heap.size < w1.heap.size := Nat.lt_of_lt_of_le kl hb1.size; have ch1 : Below w.heap.size w w1 := hB0.trans (hb1.mono (Nat.le_of_lt kl)); have p0_1 := (hb1.cell (p := ⟨w.heap.size, 0, none⟩) kl).trans p0; have p1_1 := (hb1.cell (p := ⟨w.heap.size, 1, none⟩) kl).trans p1; have p2_1 := (hb1.cell (p := ⟨w.heap.size, 2, none⟩) kl).trans p2; have p3_1 := (hb1.cell (p := ⟨w.heap.size, 3, none⟩) kl).trans p3)
  go_wp2_with (go_at_call 13; (refine (specRopeText_c _ _ _ _ _).mono ?_); rintro e w2 ⟨rfl, hb2⟩; have z2 : w.heap.size < w2.heap.size := Nat.lt_of_lt_of_le z1 hb2.size; have ch2 : Below w.heap.size w w2 := ch1.trans (hb2.mono (Nat.le_of_lt z1)); have p0_2 := (hb2.cell (p := ⟨w.heap.size, 0, none⟩) z1).trans p0_1; have p1_2 := (hb2.cell (p := ⟨w.heap.size, 1, none⟩) z1).trans p1_1; have p2_2 := (hb2.cell (p := ⟨w.heap.size, 2, none⟩) z1).trans p2_1; have p3_2 := (hb2.cell (p := ⟨w.heap.size, 3, none⟩) z1).trans p3_1)
  go_wp2_with (go_at_call 14; (refine (toRope_c _ _ _ _ _).mono ?_); rintro e w3 ⟨rfl, hb3⟩; have z3 : w.heap.size < w3.heap.size := Nat.lt_of_lt_of_le z2 hb3.size; have ch3 : Below w.heap.size w w3 := ch2.trans (hb3.mono (Nat.le_of_lt z2)); have p0_3 := (hb3.cell (p := ⟨w.heap.size, 0, none⟩) z2).trans p0_2; have p1_3 := (hb3.cell (p := ⟨w.heap.size, 1, none⟩) z2).trans p1_2; have p2_3 := (hb3.cell (p := ⟨w.heap.size, 2, none⟩) z2).trans p2_2; have p3_3 := (hb3.cell (p := ⟨w.heap.size, 3, none⟩) z2).trans p3_2)
  go_wp2_with (go_at_call 15; (refine (implRopeText_c _ _ _ _ _ (ht.below ch3)).mono ?_); rintro e w4 ⟨rfl, hb4⟩; have z4 : w.heap.size < w4.heap.size := Nat.lt_of_lt_of_le z3 hb4.size; have ch4 : Below w.heap.size w w4 := ch3.trans (hb4.mono (Nat.le_of_lt z3)); have p0_4 := (hb4.cell (p := ⟨w.heap.size, 0, none⟩) z3).trans p0_3; have p1_4 := (hb4.cell (p := ⟨w.heap.size, 1, none⟩) z3).trans p1_3; have p2_4 := (hb4.cell (p := ⟨w.heap.size, 2, none⟩) z3).trans p2_3; have p3_4 := (hb4.cell (p := ⟨w.heap.size, 3, none⟩) z3).trans p3_3)
  go_returns
  exact ⟨by simp, ch4⟩
theorem l09TextR (a c r y : Int) (t : TypeId) (w0 : World) (b : Nat) (hb : w0.heap.size = b) : RowI (w0.alloc (.cells #[.int .i64 a, .int .i64 c, .int .i64 r, .int .i64 y] t)) (some ⟨b, 0, none⟩) [a, c, r, y] := by
  subst hb
  exact RowI.new w0 t [a, c, r, y]
theorem l09TextL_c (a c r y : Int) (hv : ∀ k, k < ([a, c, r, y] : List Int).length → I64 (nth [a, c, r, y] k)) (b : Nat) (W : World) (hr : RowI W (some ⟨b, 0, none⟩) [a, c, r, y]) : Calls Tryd.prog 64 #[.slice (some ⟨b, 0, none⟩) 4 4] W fun e w' => e = .returned (.string ⟨(lstTo [a, c, r, y] 4).toArray⟩) ∧ Below W.heap.size W w' :=
  l01List_c (some ⟨b, 0, none⟩) 4 [a, c, r, y] (by simp) (by simp) hv _ hr
theorem l09TextT_c (a c r y : Int) (hv : ∀ k, k < ([a, c, r, y] : List Int).length → -1000000000000 ≤ nth [a, c, r, y] k ∧ nth [a, c, r, y] k ≤ 1000000000000) (b : Nat) (W : World) (hr : RowI W (some ⟨b, 0, none⟩) [a, c, r, y]) (ht : Tab Tryd.prog W) : Calls Tryd.prog 41 #[.slice (some ⟨b, 0, none⟩) 4 4] W fun e w' => e = .returned (.string ⟨(lstTo [a, c, r, y] 4).toArray⟩) ∧ Below W.heap.size W w' :=
  listText_c (some ⟨b, 0, none⟩) 4 4 [a, c, r, y] rfl (by simp) (by simp) hv _ hr ht
set_option maxHeartbeats 1000000 in
theorem l09Text_c (a c r y : Int) (p : Nat) (w : World) (hp : p < w.heap.size) (h0 : w.cell? ⟨p, 0, none⟩ = some (.int .i64 a)) (h1 : w.cell? ⟨p, 1, none⟩ = some (.int .i64 c)) (h2 : w.cell? ⟨p, 2, none⟩ = some (.int .i64 r)) (h3 : w.cell? ⟨p, 3, none⟩ = some (.int .i64 y)) (hv : ∀ k, k < ([a, c, r, y] : List Int).length → I64 (nth [a, c, r, y] k)) : Calls Tryd.prog 46 #[.pointer (some ⟨p, 0, none⟩)] w fun e w' => e = .returned (.string ⟨(lstTo [a, c, r, y] 4).toArray⟩) ∧ Below w.heap.size w w' := by
  have HV := Lib.hid hv
  clear hv
  go_enter Tryd.func46, Tryd.ntmps46
  go_wp2
  go_region_held3 (fun w' => w'.cell? ⟨p, 0, none⟩ = some (.int .i64 a) ∧ w'.cell? ⟨p, 1, none⟩ = some (.int .i64 c) ∧ w'.cell? ⟨p, 2, none⟩ = some (.int .i64 r) ∧ w'.cell? ⟨p, 3, none⟩ = some (.int .i64 y) ∧ p < w'.heap.size) (simp [*, go_sem])
    (first
      | (go_at_call 64; (refine (l09TextL_c a c r y HV.out _ _ (by first | exact l09TextR _ _ _ _ _ _ _ rfl | exact RowI.drew (l09TextR _ _ _ _ _ _ _ rfl) | exact RowI.drewN (l09TextR _ _ _ _ _ _ _ rfl) _)).mono ?_); rintro e w' ⟨rfl, hb⟩; obtain ⟨qc, qf, qz, qs⟩ := bfacts hb; (try simp only [World.size_alloc, World.size_setCell, World.size_drew, World.heap_drewN] at qs)))
  go_wp2
  go_returns
  refine ⟨by simp, ?_⟩
  repeat' (first
    | (with_reducible exact Below.refl _ _)
    | (with_reducible assumption)
    | (with_reducible refine Below.alloc ?_ ?_ _)
    | (with_reducible refine Below.drew ?_)
    | (with_reducible refine bdrewN ?_ _)
    | (with_reducible refine Below.setCell ?_ ?_ _)
    | (with_reducible refine bthen (by assumption) ?_ ?_)
    | go_size)
def txtProfileText (a c r y : Int) : List UInt8 := if profOk a c r y then lstTo [a, c, r, y] 4 else []
theorem inProfileText {a c r y : Int} (h : profOk a c r y = true) : ∀ k, k < ([a, c, r, y] : List Int).length → -1000000000000 ≤ nth [a, c, r, y] k ∧ nth [a, c, r, y] k ≤ 1000000000000 := by
  have := profOk_true h
  intro k hk
  simp only [List.length_cons, List.length_nil] at hk
  have : k = 0 ∨ k = 1 ∨ k = 2 ∨ k = 3 := by omega
  rcases this with rfl | rfl | rfl | rfl <;> simp [nth] <;> omega
set_option maxHeartbeats 1000000 in
theorem implProfileText_c (a c r y : Int) (w : World) (ht : Tab Tryd.prog w) : Calls Tryd.prog 18 #[.agg #[.int .i64 a, .int .i64 c, .int .i64 r, .int .i64 y]] w fun e w' => e = .returned (.string ⟨(txtProfileText a c r y).toArray⟩) ∧ Below w.heap.size w w' := by
  cases hok : profOk a c r y
  · have HF := Lib.hid (show txtProfileText a c r y = [] by simp [txtProfileText, hok])
    go_enter Tryd.func18, Tryd.ntmps18
    go_wp2_with
      (first
        | (go_at_call 47; go_call (implValidProfile_c _ _ _ _ _); rintro e w' ⟨rfl, hb⟩; obtain ⟨qc, qf, qz, qs⟩ := bfacts hb; (try simp only [World.size_alloc, World.size_setCell, World.size_drew, World.heap_drewN] at qs)))
    go_returns
    refine ⟨by (rw [HF.out]) <;> rfl, ?_⟩
    repeat' (first
      | (with_reducible exact Below.refl _ _)
      | (with_reducible assumption)
      | (with_reducible refine Below.alloc ?_ ?_ _)
      | (with_reducible refine Below.drew ?_)
      | (with_reducible refine bdrewN ?_ _)
      | (with_reducible refine Below.setCell ?_ ?_ _)
      | (with_reducible refine bthen (by assumption) ?_ ?_)
      | go_size)
  · have HF := Lib.hid (show txtProfileText a c r y = lstTo [a, c, r, y] 4 by simp [txtProfileText, hok])
    have HV := Lib.hid (inProfileText hok)
    have hBB : Below w.heap.size w (w.alloc (.cells #[.int .i64 a, .int .i64 c, .int .i64 r, .int .i64 y] 37)) := (Below.refl _ _).alloc (Nat.le_refl _) _
    go_enter Tryd.func18, Tryd.ntmps18
    go_wp2_with
      (first
        | (go_at_call 47; go_call (implValidProfile_c _ _ _ _ _); rintro e w' ⟨rfl, hb⟩; obtain ⟨qc, qf, qz, qs⟩ := bfacts hb; (try simp only [World.size_alloc, World.size_setCell, World.size_drew, World.heap_drewN] at qs))
        | (go_at_call 41; (refine (l09TextT_c a c r y HV.out _ _ (by first | exact l09TextR _ _ _ _ _ _ _ rfl | exact l09TextR _ _ _ _ _ _ _ (by simp)) (ht.below (((hBB.trans (hb.mono (by first | omega | (simp; done)))).alloc (by omega) _)))).mono ?_); rintro e w2 ⟨rfl, hb2⟩))
    go_returns
    refine ⟨by (rw [HF.out]) <;> rfl, ?_⟩
    exact ((hBB.trans (hb.mono (by first | omega | (simp; done)))).alloc (by have := hb.size; simp at this; omega) _).trans (hb2.mono (by have := hb.size; simp at this ⊢; omega))
set_option maxHeartbeats 1000000 in
theorem specProfileText_c (a c r y : Int) (w : World) : Calls Tryd.prog 16 #[.agg #[.int .i64 a, .int .i64 c, .int .i64 r, .int .i64 y]] w fun e w' => e = .returned (.string ⟨(txtProfileText a c r y).toArray⟩) ∧ Below w.heap.size w w' := by
  cases hok : profOk a c r y
  · have HF := Lib.hid (show txtProfileText a c r y = [] by simp [txtProfileText, hok])
    go_enter Tryd.func16, Tryd.ntmps16
    go_wp2_with
      (first
        | (go_at_call 45; go_call (l09Ok_c a c r y); rintro e w' ⟨rfl, nq, rfl⟩))
    go_returns
    refine ⟨by (rw [HF.out]) <;> rfl, ?_⟩
    repeat' (first
      | (with_reducible exact Below.refl _ _)
      | (with_reducible assumption)
      | (with_reducible refine Below.alloc ?_ ?_ _)
      | (with_reducible refine Below.drew ?_)
      | (with_reducible refine bdrewN ?_ _)
      | (with_reducible refine Below.setCell ?_ ?_ _)
      | (with_reducible refine bthen (by assumption) ?_ ?_)
      | go_size)
  · have HF := Lib.hid (show txtProfileText a c r y = lstTo [a, c, r, y] 4 by simp [txtProfileText, hok])
    have HV := Lib.hid (show ∀ k, k < ([a, c, r, y] : List Int).length → I64 (nth [a, c, r, y] k) from fun k hk => by
      have := inProfileText hok k hk
      unfold I64
      omega)
    go_enter Tryd.func16, Tryd.ntmps16
    go_wp2_with
      (first
        | (go_at_call 45; go_call (l09Ok_c a c r y); rintro e w' ⟨rfl, nq, rfl⟩)
        | (go_at_call 46; (refine (l09Text_c a c r y _ _ (by simp [*]) (by simp [*]) (by simp [*]) (by simp [*]) (by simp [*]) (HV.out)).mono ?_); rintro e w2 ⟨rfl, hb2⟩))
    go_returns
    refine ⟨by (rw [HF.out]) <;> rfl, ?_⟩
    first | exact ((Below.refl _ _).alloc (Nat.le_refl _) _).trans (hb2.mono (by simp; done)) | exact (bdrewN ((Below.refl w.heap.size w).alloc (Nat.le_refl _) _) _).trans (hb2.mono (by simp))
set_option maxHeartbeats 2000000 in
theorem walk_FnExactProfileText (a c r y : Int) (w : World) (_ : I64 a) (_ : I64 c) (_ : I64 r) (_ : I64 y) (ht : Tab Tryd.prog w) : Calls Tryd.prog 5 #[.agg #[.int .i64 a, .int .i64 c, .int .i64 r, .int .i64 y]] w fun e w' => e = .returned (.bool true) ∧ Below w.heap.size w w' := by
  have hB0 : Below w.heap.size w (w.alloc (.cells #[.int .i64 a, .int .i64 c, .int .i64 r, .int .i64 y] 35)) := (Below.refl _ _).alloc (Nat.le_refl _) _
  have p0 : (w.alloc (.cells #[.int .i64 a, .int .i64 c, .int .i64 r, .int .i64 y] 35)).cell? ⟨w.heap.size, 0, none⟩ = some (.int .i64 a) := by simp
  have p1 : (w.alloc (.cells #[.int .i64 a, .int .i64 c, .int .i64 r, .int .i64 y] 35)).cell? ⟨w.heap.size, 1, none⟩ = some (.int .i64 c) := by simp
  have p2 : (w.alloc (.cells #[.int .i64 a, .int .i64 c, .int .i64 r, .int .i64 y] 35)).cell? ⟨w.heap.size, 2, none⟩ = some (.int .i64 r) := by simp
  have p3 : (w.alloc (.cells #[.int .i64 a, .int .i64 c, .int .i64 r, .int .i64 y] 35)).cell? ⟨w.heap.size, 3, none⟩ = some (.int .i64 y) := by simp
  have kl : w.heap.size < (w.alloc (.cells #[.int .i64 a, .int .i64 c, .int .i64 r, .int .i64 y] 35)).heap.size := by simp
  go_enter Tryd.func5, Tryd.ntmps5
  go_wp2_with (go_at_call 17; (refine (toProfile_c _ _ _ _ _).mono ?_); rintro e w1 ⟨rfl, hb1⟩; have z1 : w.heap.size < w1.heap.size := Nat.lt_of_lt_of_le kl hb1.size; have ch1 : Below w.heap.size w w1 := hB0.trans (hb1.mono (Nat.le_of_lt kl)); have p0_1 := (hb1.cell (p := ⟨w.heap.size, 0, none⟩) kl).trans p0; have p1_1 := (hb1.cell (p := ⟨w.heap.size, 1, none⟩) kl).trans p1; have p2_1 := (hb1.cell (p := ⟨w.heap.size, 2, none⟩) kl).trans p2; have p3_1 := (hb1.cell (p := ⟨w.heap.size, 3, none⟩) kl).trans p3)
  go_wp2_with (go_at_call 16; (refine (specProfileText_c _ _ _ _ _).mono ?_); rintro e w2 ⟨rfl, hb2⟩; have z2 : w.heap.size < w2.heap.size := Nat.lt_of_lt_of_le z1 hb2.size; have ch2 : Below w.heap.size w w2 := ch1.trans (hb2.mono (Nat.le_of_lt z1)); have p0_2 := (hb2.cell (p := ⟨w.heap.size, 0, none⟩) z1).trans p0_1; have p1_2 := (hb2.cell (p := ⟨w.heap.size, 1, none⟩) z1).trans p1_1; have p2_2 := (hb2.cell (p := ⟨w.heap.size, 2, none⟩) z1).trans p2_1; have p3_2 := (hb2.cell (p := ⟨w.heap.size, 3, none⟩) z1).trans p3_1)
  go_wp2_with (go_at_call 17; (refine (toProfile_c _ _ _ _ _).mono ?_); rintro e w3 ⟨rfl, hb3⟩; have z3 : w.heap.size < w3.heap.size := Nat.lt_of_lt_of_le z2 hb3.size; have ch3 : Below w.heap.size w w3 := ch2.trans (hb3.mono (Nat.le_of_lt z2)); have p0_3 := (hb3.cell (p := ⟨w.heap.size, 0, none⟩) z2).trans p0_2; have p1_3 := (hb3.cell (p := ⟨w.heap.size, 1, none⟩) z2).trans p1_2; have p2_3 := (hb3.cell (p := ⟨w.heap.size, 2, none⟩) z2).trans p2_2; have p3_3 := (hb3.cell (p := ⟨w.heap.size, 3, none⟩) z2).trans p3_2)
  go_wp2_with (go_at_call 18; (refine (implProfileText_c _ _ _ _ _ (ht.below ch3)).mono ?_); rintro e w4 ⟨rfl, hb4⟩; have z4 : w.heap.size < w4.heap.size := Nat.lt_of_lt_of_le z3 hb4.size; have ch4 : Below w.heap.size w w4 := ch3.trans (hb4.mono (Nat.le_of_lt z3)); have p0_4 := (hb4.cell (p := ⟨w.heap.size, 0, none⟩) z3).trans p0_3; have p1_4 := (hb4.cell (p := ⟨w.heap.size, 1, none⟩) z3).trans p1_3; have p2_4 := (hb4.cell (p := ⟨w.heap.size, 2, none⟩) z3).trans p2_3; have p3_4 := (hb4.cell (p := ⟨w.heap.size, 3, none⟩) z3).trans p3_3)
  go_returns
  exact ⟨by simp, ch4⟩
end Go.Proofs.YthoapfdflffpkaaDoor
