/- Texts read back: the round trips of hours and ropes (plain). -/
import Derived.Test.YthemojobalcopaaGreatDoorTX4
import Derived.Test.YthemojobalcopaaGreatDoorRH
namespace Go.Proofs.YthemojobalcopaaGreatDoor
open Go.ChangeShapes Go.WideShapes Go.ChangeAt Go.RowKit Go.Shelf
set_option linter.unusedVariables false
set_option linter.unusedSimpArgs false

theorem lst_join3 (a b c : Int) : lstTo [a, b, c] 3 = Lib.join ([a, b, c].map Lib.itoa) [44] := by
  simp [lstTo, nth, join_two, Lib.join]
theorem lst_join4 (a b c d : Int) : lstTo [a, b, c, d] 4 = Lib.join ([a, b, c, d].map Lib.itoa) [44] := by
  simp [lstTo, nth, join_two, Lib.join]
theorem join_comma (x y : List UInt8) (r : List (List UInt8)) : Lib.join (x :: y :: r) [44] ≠ [45] := fun h => by
  rw [join_two] at h
  have : (44 : UInt8) ∈ ([45] : List UInt8) := by rw [← h]; simp
  simp at this
theorem fRead_list {xs : List Int} {x y : Int} {r : List Int} (he : xs = x :: y :: r) (hl : xs.length ≤ 64) (hv : ∀ n ∈ xs, -1000000000000 ≤ n ∧ n ≤ 1000000000000) : fRead (Lib.join (xs.map Lib.itoa) [44]) = (xs, true) := by
  obtain ⟨h1, h2⟩ := read_text (by rw [he]; simp) hl hv
  unfold fRead
  rw [if_neg (by rw [he]; exact join_comma _ _ _), if_pos h1, h2]
theorem rd_txtHour {r d x : Int} (h : hourOk r d x = true) : rdHour (txtHourText r d x) = ([r, d, x], true) := by
  obtain ⟨⟨a0, a1⟩, ⟨b0, b1⟩, ⟨c0, c1⟩⟩ := hourOk_true h
  have hf := fRead_list (xs := [r, d, x]) rfl (by simp) (by intro n hn; simp at hn; rcases hn with rfl | rfl | rfl <;> omega)
  unfold txtHourText
  rw [if_pos h, lst_join3, rdHour_all (by rw [hf]), if_pos h]
theorem txtHour_len {r d x : Int} (h : hourOk r d x = true) : (ByteArray.mk (txtHourText r d x).toArray).size ≤ 1048576 := by
  have hv := inHourText h
  have := lstTo_len (xs := [r, d, x]) (fun k hk => by have := hv k hk; unfold I64; omega) 3 (by simp)
  show (txtHourText r d x).toArray.size ≤ 1048576
  unfold txtHourText
  rw [if_pos h]
  simp only [List.size_toArray]
  omega
theorem rd_txtRope {a b c d : Int} (h : ropeOk a b c d = true) : rdRope (txtRopeText a b c d) = ([a, b, c, d], true) := by
  have hv := inRopeText h
  have v0 := hv 0 (by simp)
  have v1 := hv 1 (by simp)
  have v2 := hv 2 (by simp)
  have v3 := hv 3 (by simp)
  simp only [nth] at v0 v1 v2 v3
  have hf := fRead_list (xs := [a, b, c, d]) rfl (by simp) (by intro n hn; simp at hn; rcases hn with rfl | rfl | rfl | rfl <;> simp_all)
  unfold txtRopeText
  rw [if_pos h, lst_join4, rdRope_all (by rw [hf]), if_pos h]
theorem txtRope_len {a b c d : Int} (h : ropeOk a b c d = true) : (ByteArray.mk (txtRopeText a b c d).toArray).size ≤ 1048576 := by
  have hv := inRopeText h
  have := lstTo_len (xs := [a, b, c, d]) (fun k hk => by have := hv k hk; unfold I64; omega) 4 (by simp)
  show (txtRopeText a b c d).toArray.size ≤ 1048576
  unfold txtRopeText
  rw [if_pos h]
  simp only [List.size_toArray]
  omega
end Go.Proofs.YthemojobalcopaaGreatDoor
