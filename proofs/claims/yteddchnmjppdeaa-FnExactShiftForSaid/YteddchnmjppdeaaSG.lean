/- slices.Sort at lists of numbers of whatever length, by the shelf's contract. -/
import Derived.Test.YteddchnmjppdeaaSO
import Derived.Shelf.SlGeneric
import Derived.Shelf.SortM.Plain
import Derived.Ground.SlgmProg
import Derived.Sort.OwnSorted
namespace Go.Proofs.Yteddchnmjppdeaa
open Go.ChangeShapes Go.WideShapes Go.ChangeAt Go.RowKit Go.Sort Go.Shelf
set_option linter.unusedVariables false
set_option linter.unusedSimpArgs false

theorem holds_of_blockI {w : World} {g : Nat} {cur : Array Value} {e : TypeId} {ss : List Int} (hb : w.heap[g]? = some (.cells cur e (0, 0))) (ht : cur.toList.take ss.length = ss.map (Value.int .i64)) : Holds (Value.int .i64) w g 0 ss.toArray := by
  intro j hj
  have hj' : j < ss.length := by simpa using hj
  refine ⟨?_, by simp [World.frozen?, hb]⟩
  have h1 : (cur.toList.take ss.length)[j]? = (ss.map (Value.int .i64))[j]? := by rw [ht]
  rw [List.getElem?_take_of_lt hj'] at h1
  simp only [World.cell?, hb, Nat.zero_add]
  simp only [Option.isSome_none, Bool.false_eq_true, if_false]
  rw [← Array.getElem?_toList, h1]
  simp [hj']
theorem heap_sortedI {w : World} {g n : Nat} {os : Array Obj} {cur : Array Value} {e : TypeId} {fr : Nat × Nat} (d : Array Int) (hb : w.heap[g]? = some (.cells cur e fr)) :
    (grow (putRow (Value.int .i64) (Sort.ahead w n) g 0 d) os).heap[g]? = some (.cells (putCells (Value.int .i64) 0 d cur) e fr) := by
  have hg : g < w.heap.size := (Array.getElem?_eq_some_iff.1 hb).1
  rw [heap_grow_old _ _ (by simpa using hg)]
  simp [putRow, mapBlock, Sort.ahead, Array.getElem?_modify, hb, onCells]
theorem grownBy_sortedI {w : World} {g n : Nat} {os : Array Obj} (d : Array Int) : w.grownBy (grow (putRow (Value.int .i64) (Sort.ahead w n) g 0 d) os) (some g) := by
  refine ⟨rfl, rfl, rfl, by simp, fun k hk hne => ?_⟩
  rw [heap_grow_old _ _ (by simpa using hk)]
  have : g ≠ k := fun e => hne (by rw [e])
  simp [putRow, mapBlock, Sort.ahead, Array.getElem?_modify, this]
theorem take_putCellsI (cur : Array Value) (ts : List Int) (h : ts.length ≤ cur.size) : (putCells (Value.int .i64) 0 ts.toArray cur).toList.take ts.length = ts.map (Value.int .i64) := by
  apply List.ext_getElem?
  intro j
  by_cases hj : j < ts.length
  · rw [List.getElem?_take_of_lt hj, Array.getElem?_toList]
    simp [putCells, hj, show j < cur.size by omega]
  · rw [List.getElem?_take_eq_none (by omega), List.getElem?_eq_none (by simp; omega)]
theorem sortI_dec (xs : List Int) : (xs.mergeSort fun x y => decide (x ≤ y)) = sortI xs := by
  unfold sortI
  congr 1
  funext x y
  unfold ltInt
  by_cases h : x ≤ y
  · simp [h, show ¬ y < x by omega]
  · simp [h, show y < x by omega]
shelf_lay_g SlLaysM.n5 Slgm 5 at Try 35 as sortLay
theorem sortG_c (v : Value) (xs : List Int) (hn : xs.length ≤ 1048576) (B : Nat) (w : World) (h : OwnI 2 w B v xs) (hB : B ≤ w.heap.size) : Calls Try.prog 35 #[v] w fun e w' => e = .returned (.tuple #[]) ∧ OwnI 2 w' B v (sortI xs) ∧ RowKit.Below B w w' := by
  have h0 : w.ownsRow B 2 1 v xs.length (xs.map (Value.int .i64)) := h
  rcases h0.2 with ⟨rfl, hn0⟩ | ⟨g, cap, cur, rfl, hbase, hb, h1, h2, h3, h4⟩
  · exact sort_c _ xs (by omega) B w h hB
  · have hg : g < w.heap.size := (Array.getElem?_eq_some_iff.1 hb).1
    refine (AnyM.slices_Sort_int sortLay g 0 cap xs w (holds_of_blockI hb (by simpa using h4)) hg (by omega)).mono ?_
    rintro e w' ⟨rfl, n, os, rfl⟩
    rw [sortI_dec]
    have hl := sortI_len xs
    refine ⟨rfl, ?_, (RowKit.Below.refl _ _).grown (grownBy_sortedI _) hB (fun k hk => by injection hk with hk; omega)⟩
    show World.ownsRow _ _ _ _ _ _ _
    rw [hl]
    exact ⟨by simp [hl], .inr ⟨g, cap, _, rfl, hbase, heap_sortedI _ hb, h1, h2, by simp [putCells, h3], by rw [Nat.mul_one, ← hl]; exact take_putCellsI cur (sortI xs) (by omega)⟩⟩
end Go.Proofs.Yteddchnmjppdeaa
