/- DrawKindsOf, DrawLongestGood. -/
import Derived.Test.YthemojobalcopaaGreatDoorD6
namespace Go.Proofs.YthemojobalcopaaGreatDoor
open Go.ChangeShapes Go.WideShapes Go.ChangeAt Go.RowKit
set_option linter.unusedVariables false
set_option linter.unusedSimpArgs false

/-- What a law's argument that is a slice of bytes gives. -/
def ByteArg (W : World) (A : Option Addr) (n : Nat) : Prop := n ≤ 9223372036854775807 ∧ RowB W A n
theorem byteRow_of_trod {H : Type} {enc : TypeId × Value → H} {P : Program} {W : World} {t e : TypeId} {A : Option Addr} {n c : Nat} {d : DataW H} {p : List MemPlace} (ht : P.underlying t = some (.slice e)) (he : P.underlying e = some (.int .u8)) (hC : P.cellsOf e = 1)
    (h : DataW.Trod enc P W 0 (fun _ => true) true t (.slice A n c) d p) : ByteArg W A n := by
  obtain ⟨fuel, hf⟩ := h
  rcases open_ints ht he hC hf with ⟨hcs, _⟩ | ⟨x, l, cc, zs, hcs, _, hl, hm, hz, _, hcell, hwz⟩
  · simp [Value.cells] at hcs
    obtain ⟨rfl, rfl, rfl⟩ := hcs
    exact ⟨by omega, fun h => by omega⟩
  · simp [Value.cells] at hcs
    obtain ⟨rfl, rfl, rfl⟩ := hcs
    unfold maxLen at hm
    have hlen : zs.length = c := by simpa using hz
    refine ⟨by omega, fun hn => ?_⟩
    obtain ⟨b, off, spot⟩ := x
    have hc0 := hcell 0 (by omega)
    have hspot : spot = none := by simpa [Addr.add] using World.cell?_spot hc0
    subst hspot
    have hc' : ∀ i, i < zs.length → W.cell? ⟨b, off + i, none⟩ = some (.int .u8 (zs.getD i 0)) := fun i hi => by
      have := hcell i hi
      unfold Addr.add at this
      by_cases h0 : i = 0
      · subst h0; simpa using this
      · simpa [h0] using this
    refine ⟨b, off, rfl, lt_of_cell (hc' 0 (by omega)), fun i hi => ⟨_, ?_, ?_, hc' i (by omega)⟩⟩
    all_goals
      have hm : zs.getD i 0 ∈ zs := by
        rw [List.getD_eq_getElem?_getD, List.getElem?_eq_getElem (by omega), Option.getD_some]
        exact List.getElem_mem _
      have := bounds_u8 (hwz _ hm)
      omega
theorem b10Long_n {n : Nat} (h : n ≤ 1048576) (A : Option Addr) (c : Nat) (w : World) : Calls Tryz.prog 4 #[.slice A n c] w fun e w' => e = .returned (.bool false) ∧ w = w' := by
  have := b10Long_c A n c w
  rw [show decide ((1048576 : Int) < n) = false by simp; omega] at this
  exact this
theorem b10Long_y {n : Nat} (h : 1048576 < n) (A : Option Addr) (c : Nat) (w : World) : Calls Tryz.prog 4 #[.slice A n c] w fun e w' => e = .returned (.bool true) ∧ w = w' := by
  have := b10Long_c A n c w
  rw [show decide ((1048576 : Int) < n) = true by simp; omega] at this
  exact this
theorem Box3.below {b : Nat} {w w' : World} {r d x : Int} (h : Box3 b w r d x) (hb : Below w.heap.size w w') : Box3 b w' r d x := by
  obtain ⟨h0, c0, c1, c2, hf⟩ := h
  exact ⟨Nat.lt_of_lt_of_le h0 hb.size, (hb.cell (p := ⟨b, 0, none⟩) h0).trans c0, (hb.cell (p := ⟨b, 1, none⟩) h0).trans c1, (hb.cell (p := ⟨b, 2, none⟩) h0).trans c2, fun j => (hb.frozen (p := ⟨b, j, none⟩) h0).trans (hf j)⟩
theorem among0_80_200_330_350_351_1000_1001_m1_c (p k : Nat) (hk : k ≤ 900000000) (W : World) (b : Nat) (hb : b = W.heap.size) (h : Src p k W) : Calls Tryz.prog 22 #[.pointer (some ⟨p, 0, none⟩), .slice (some ⟨b, 0, none⟩) 9 9] (W.alloc (.cells #[.int .i64 0, .int .i64 80, .int .i64 200, .int .i64 330, .int .i64 350, .int .i64 351, .int .i64 1000, .int .i64 1001, .int .i64 (-1)] 2)) fun e w' => (∃ r : Int, e = .returned (.int .i64 r)) ∧ Src p (k + 2) w' ∧ W.grownBy w' (some p) :=
  amongL_c p k [0, 80, 200, 330, 350, 351, 1000, 1001, (-1)] hk (by simp) (by simp) W 2 b hb h
end Go.Proofs.YthemojobalcopaaGreatDoor
