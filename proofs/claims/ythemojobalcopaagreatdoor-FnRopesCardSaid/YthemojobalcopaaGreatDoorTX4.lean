/- HourText RopeText ProfileText. -/
import Derived.Test.YthemojobalcopaaGreatDoorTX3
import Derived.Test.YthemojobalcopaaGreatDoorR
import Derived.Test.YthemojobalcopaaGreatDoorV
import Derived.Test.YthemojobalcopaaGreatDoorW
namespace Go.Proofs.YthemojobalcopaaGreatDoor
open Go.ChangeShapes Go.WideShapes Go.ChangeAt Go.RowKit
set_option linter.unusedVariables false
set_option linter.unusedSimpArgs false

theorem l08TextR (r d x : Int) (t : TypeId) (w0 : World) (b : Nat) (hb : w0.heap.size = b) : RowI (w0.alloc (.cells #[.int .i64 r, .int .i64 d, .int .i64 x] t)) (some ⟨b, 0, none⟩) [r, d, x] := by
  subst hb
  exact RowI.new w0 t [r, d, x]
theorem l08TextT_c (r d x : Int) (hv : ∀ k, k < ([r, d, x] : List Int).length → -1000000000000 ≤ nth [r, d, x] k ∧ nth [r, d, x] k ≤ 1000000000000) (b : Nat) (W : World) (hr : RowI W (some ⟨b, 0, none⟩) [r, d, x]) (ht : Tab Tryz.prog W) : Calls Tryz.prog 37 #[.slice (some ⟨b, 0, none⟩) 3 3] W fun e w' => e = .returned (.string ⟨(lstTo [r, d, x] 3).toArray⟩) ∧ Below W.heap.size W w' :=
  listText_c (some ⟨b, 0, none⟩) 3 3 [r, d, x] rfl (by simp) (by simp) hv _ hr ht
def txtHourText (r d x : Int) : List UInt8 := if hourOk r d x then lstTo [r, d, x] 3 else []
theorem inHourText {r d x : Int} (h : hourOk r d x = true) : ∀ k, k < ([r, d, x] : List Int).length → -1000000000000 ≤ nth [r, d, x] k ∧ nth [r, d, x] k ≤ 1000000000000 := by
  have := hourOk_true h
  intro k hk
  simp only [List.length_cons, List.length_nil] at hk
  have : k = 0 ∨ k = 1 ∨ k = 2 := by omega
  rcases this with rfl | rfl | rfl <;> simp [nth] <;> omega
theorem l06TextR (a g c d : Int) (t : TypeId) (w0 : World) (b : Nat) (hb : w0.heap.size = b) : RowI (w0.alloc (.cells #[.int .i64 a, .int .i64 g, .int .i64 c, .int .i64 d] t)) (some ⟨b, 0, none⟩) [a, g, c, d] := by
  subst hb
  exact RowI.new w0 t [a, g, c, d]
theorem l06TextT_c (a g c d : Int) (hv : ∀ k, k < ([a, g, c, d] : List Int).length → -1000000000000 ≤ nth [a, g, c, d] k ∧ nth [a, g, c, d] k ≤ 1000000000000) (b : Nat) (W : World) (hr : RowI W (some ⟨b, 0, none⟩) [a, g, c, d]) (ht : Tab Tryz.prog W) : Calls Tryz.prog 37 #[.slice (some ⟨b, 0, none⟩) 4 4] W fun e w' => e = .returned (.string ⟨(lstTo [a, g, c, d] 4).toArray⟩) ∧ Below W.heap.size W w' :=
  listText_c (some ⟨b, 0, none⟩) 4 4 [a, g, c, d] rfl (by simp) (by simp) hv _ hr ht
def txtRopeText (a g c d : Int) : List UInt8 := if ropeOk a g c d then lstTo [a, g, c, d] 4 else []
theorem inRopeText {a g c d : Int} (h : ropeOk a g c d = true) : ∀ k, k < ([a, g, c, d] : List Int).length → -1000000000000 ≤ nth [a, g, c, d] k ∧ nth [a, g, c, d] k ≤ 1000000000000 := by
  have := ropeOk_true h
  intro k hk
  simp only [List.length_cons, List.length_nil] at hk
  have : k = 0 ∨ k = 1 ∨ k = 2 ∨ k = 3 := by omega
  rcases this with rfl | rfl | rfl | rfl <;> simp [nth] <;> omega
set_option maxHeartbeats 1000000 in
theorem implRopeText_c (a g c d : Int) (w : World) (ht : Tab Tryz.prog w) : Calls Tryz.prog 18 #[.agg #[.int .i64 a, .int .i64 g, .int .i64 c, .int .i64 d]] w fun e w' => e = .returned (.string ⟨(txtRopeText a g c d).toArray⟩) ∧ Below w.heap.size w w' := by
  cases hok : ropeOk a g c d
  · have HF := Lib.hid (show txtRopeText a g c d = [] by simp [txtRopeText, hok])
    go_enter Tryz.func18, Tryz.ntmps18
    go_wp2_with
      (first
        | (go_at_call 33; go_call (implValidRope_c _ _ _ _ _); rintro e w' ⟨rfl, hb⟩; obtain ⟨qc, qf, qz, qs⟩ := bfacts hb; (try simp only [World.size_alloc, World.size_setCell, World.size_drew, World.heap_drewN] at qs)))
    go_returns
    refine ⟨by (rw [HF.out]) <;> rfl, ?_⟩
    repeat' (first
      | (with_reducible exact Below.refl _ _)
      | (with_reducible assumption)
      | (with_reducible refine Below.alloc ?_ ?_ _)
      | (with_reducible refine Below.drew ?_)
      | (with_reducible refine bdrewN ?_ _)
      | (with_reducible refine Below.setCell ?_ ?_ _)
      | (with_reducible refine bthen (by assumption) ?_ ?_)
      | go_size)
  · have HF := Lib.hid (show txtRopeText a g c d = lstTo [a, g, c, d] 4 by simp [txtRopeText, hok])
    have HV := Lib.hid (inRopeText hok)
    have hBB : Below w.heap.size w (w.alloc (.cells #[.int .i64 a, .int .i64 g, .int .i64 c, .int .i64 d] 25)) := (Below.refl _ _).alloc (Nat.le_refl _) _
    go_enter Tryz.func18, Tryz.ntmps18
    go_wp2_with
      (first
        | (go_at_call 33; go_call (implValidRope_c _ _ _ _ _); rintro e w' ⟨rfl, hb⟩; obtain ⟨qc, qf, qz, qs⟩ := bfacts hb; (try simp only [World.size_alloc, World.size_setCell, World.size_drew, World.heap_drewN] at qs))
        | (go_at_call 37; (refine (l06TextT_c a g c d HV.out _ _ (by first | exact l06TextR _ _ _ _ _ _ _ rfl | exact l06TextR _ _ _ _ _ _ _ (by simp)) (ht.below (((hBB.trans (hb.mono (by first | omega | (simp; done)))).alloc (by omega) _)))).mono ?_); rintro e w2 ⟨rfl, hb2⟩))
    go_returns
    refine ⟨by (rw [HF.out]) <;> rfl, ?_⟩
    exact ((hBB.trans (hb.mono (by first | omega | (simp; done)))).alloc (by have := hb.size; simp at this; omega) _).trans (hb2.mono (by have := hb.size; simp at this ⊢; omega))
theorem l09TextR (a c r y : Int) (t : TypeId) (w0 : World) (b : Nat) (hb : w0.heap.size = b) : RowI (w0.alloc (.cells #[.int .i64 a, .int .i64 c, .int .i64 r, .int .i64 y] t)) (some ⟨b, 0, none⟩) [a, c, r, y] := by
  subst hb
  exact RowI.new w0 t [a, c, r, y]
theorem l09TextT_c (a c r y : Int) (hv : ∀ k, k < ([a, c, r, y] : List Int).length → -1000000000000 ≤ nth [a, c, r, y] k ∧ nth [a, c, r, y] k ≤ 1000000000000) (b : Nat) (W : World) (hr : RowI W (some ⟨b, 0, none⟩) [a, c, r, y]) (ht : Tab Tryz.prog W) : Calls Tryz.prog 37 #[.slice (some ⟨b, 0, none⟩) 4 4] W fun e w' => e = .returned (.string ⟨(lstTo [a, c, r, y] 4).toArray⟩) ∧ Below W.heap.size W w' :=
  listText_c (some ⟨b, 0, none⟩) 4 4 [a, c, r, y] rfl (by simp) (by simp) hv _ hr ht
def txtProfileText (a c r y : Int) : List UInt8 := if profOk a c r y then lstTo [a, c, r, y] 4 else []
theorem inProfileText {a c r y : Int} (h : profOk a c r y = true) : ∀ k, k < ([a, c, r, y] : List Int).length → -1000000000000 ≤ nth [a, c, r, y] k ∧ nth [a, c, r, y] k ≤ 1000000000000 := by
  have := profOk_true h
  intro k hk
  simp only [List.length_cons, List.length_nil] at hk
  have : k = 0 ∨ k = 1 ∨ k = 2 ∨ k = 3 := by omega
  rcases this with rfl | rfl | rfl | rfl <;> simp [nth] <;> omega
end Go.Proofs.YthemojobalcopaaGreatDoor
