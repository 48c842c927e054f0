/- slices.Sort at lists of numbers of whatever length, by the shelf's contract. -/
import Derived.Test.YteddchnmjppdeaaSO
import Derived.Shelf.SlGeneric
import Derived.Shelf.SortM.Plain
import Derived.Ground.SlgmProg
import Derived.Sort.OwnSorted
namespace Go.Proofs.Yteddchnmjppdeaa
open Go.ChangeShapes Go.WideShapes Go.ChangeAt Go.RowKit Go.Sort Go.Shelf
set_option linter.unusedVariables false
set_option linter.unusedSimpArgs false

theorem holds_of_blockI {w : World} {g : Nat} {cur : Array Value} {e : TypeId} {ss : List Int} (hb : w.heap[g]? = some (.cells cur e (0, 0))) (ht : cur.toList.take ss.length = ss.map (Value.int .i64)) : Holds (Value.int .i64) w g 0 ss.toArray := by
  intro j hj
  have hj' : j < ss.length := by simpa using hj
  refine ⟨?_, by simp [World.frozen?, hb]⟩
  have h1 : (cur.toList.take ss.length)[j]? = (ss.map (Value.int .i64))[j]? := by rw [ht]
  rw [List.getElem?_take_of_lt hj'] at h1
  simp only [World.cell?, hb, Nat.zero_add]
  simp only [Option.isSome_none, Bool.false_eq_true, if_false]
  rw [← Array.getElem?_toList, h1]
  simp [hj']
theorem heap_sortedI {w : World} {g n : Nat} {os : Array Obj} {cur : Array Value} {e : TypeId} {fr : Nat × Nat} (d : Array Int) (hb : w.heap[g]? = some (.cells cur e fr)) :
    (grow (putRow (Value.int .i64) (Sort.ahead w n) g 0 d) os).heap[g]? = some (.cells (putCells (Value.int .i64) 0 d cur) e fr) := by
  have hg : g < w.heap.size := (Array.getElem?_eq_some_iff.1 hb).1
  rw [heap_grow_old _ _ (by simpa using hg)]
  simp [putRow, mapBlock, Sort.ahead, Array.getElem?_modify, hb, onCells]
theorem grownBy_sortedI {w : World} {g n : Nat} {os : Array Obj} (d : Array Int) : w.grownBy (grow (putRow (Value.int .i64) (Sort.ahead w n) g 0 d) os) (some g) := by
  refine ⟨rfl, rfl, rfl, by simp, fun k hk hne => ?_⟩
  rw [heap_grow_old _ _ (by simpa using hk)]
  have : g ≠ k := fun e => hne (by rw [e])
  simp [putRow, mapBlock, Sort.ahead, Array.getElem?_modify, this]
theorem take_putCellsI (cur : Array Value) (ts : List Int) (h : ts.length ≤ cur.size) : (putCells (Value.int .i64) 0 ts.toArray cur).toList.take ts.length = ts.map (Value.int .i64) := by
  apply List.ext_getElem?
  intro j
  by_cases hj : j < ts.length
  · rw [List.getElem?_take_of_lt hj, Array.getElem?_toList]
    simp [putCells, hj, show j < cur.size by omega]
  · rw [List.getElem?_take_eq_none (by omega), List.getElem?_eq_none (by simp; omega)]
theorem sortI_dec (xs : List Int) : (xs.mergeSort fun x y => decide (x ≤ y)) = sortI xs := by
  unfold sortI
  congr 1
  funext x y
  unfold ltInt
  by_cases h : x ≤ y
  · simp [h, show ¬ y < x by omega]
  · simp [h, show y < x by omega]
def sortLay_ren : Go.Shelf.Ren := ⟨fun | 5 => 35 | 8 => 64 | 7 => 63 | 19 => 84 | 20 => 85 | 10 => 75 | 11 => 76 | 12 => 77 | 13 => 78 | 14 => 79 | 15 => 80 | 16 => 81 | 17 => 82 | 18 => 83 | 30 => 88 | 31 => 89 | 32 => 90 | 33 => 91 | 34 => 92 | 35 => 93 | 40 => 94 | n => n, fun | 23 => 22 | 25 => 2 | 3 => 3 | 32 => 82 | 22 => 22 | 0 => 0 | 44 => 106 | 46 => 85 | 4 => 4 | 36 => 98 | 35 => 97 | 41 => 103 | 5 => 5 | 9 => 9 | 53 => 109 | 57 => 113 | 63 => 115 | 64 => 116 | n => n, fun | n => n⟩
theorem sortLay : Go.Proofs.SlLaysM.n5 Try.prog sortLay_ren := {
  mixed := by kernel_rfl,
  f5 := ⟨Try.f35.name, by decide, Try.func35.trans (congrArg some (by kernel_rfl))⟩,
  f7 := ⟨Try.f63.name, by decide, Try.func63.trans (congrArg some (by kernel_rfl))⟩,
  f8 := Try.func64.trans (congrArg some (by kernel_rfl)),
  f10 := ⟨Try.f75.name, by decide, Try.func75.trans (congrArg some (by kernel_rfl))⟩,
  f11 := ⟨Try.f76.name, by decide, Try.func76.trans (congrArg some (by kernel_rfl))⟩,
  f12 := ⟨Try.f77.name, by decide, Try.func77.trans (congrArg some (by kernel_rfl))⟩,
  f13 := ⟨Try.f78.name, by decide, Try.func78.trans (congrArg some (by kernel_rfl))⟩,
  f14 := ⟨Try.f79.name, by decide, Try.func79.trans (congrArg some (by kernel_rfl))⟩,
  f15 := ⟨Try.f80.name, by decide, Try.func80.trans (congrArg some (by kernel_rfl))⟩,
  f16 := ⟨Try.f81.name, by decide, Try.func81.trans (congrArg some (by kernel_rfl))⟩,
  f17 := ⟨Try.f82.name, by decide, Try.func82.trans (congrArg some (by kernel_rfl))⟩,
  f18 := ⟨Try.f83.name, by decide, Try.func83.trans (congrArg some (by kernel_rfl))⟩,
  f19 := Try.func84.trans (congrArg some (by kernel_rfl)),
  f20 := Try.func85.trans (congrArg some (by kernel_rfl)),
  f30 := ⟨Try.f88.name, by decide, Try.func88.trans (congrArg some (by kernel_rfl))⟩,
  f31 := Try.func89.trans (congrArg some (by kernel_rfl)),
  f32 := Try.func90.trans (congrArg some (by kernel_rfl)),
  f33 := ⟨Try.f91.name, by decide, Try.func91.trans (congrArg some (by kernel_rfl))⟩,
  f34 := ⟨Try.f92.name, by decide, Try.func92.trans (congrArg some (by kernel_rfl))⟩,
  f35 := ⟨Try.f93.name, by decide, Try.func93.trans (congrArg some (by kernel_rfl))⟩,
  f40 := ⟨Try.f94.name, by decide, Try.func94.trans (congrArg some (by kernel_rfl))⟩,
  t0 := Try.underlying0,
  a0 := Try.isAgg0,
  z0 := Try.sizeOf0,
  v0 := Try.zeroValue0,
  t3 := Try.underlying3,
  a3 := Try.isAgg3,
  z3 := Try.sizeOf3,
  v3 := Try.zeroValue3,
  t4 := Try.underlying4,
  a4 := Try.isAgg4,
  z4 := Try.sizeOf4,
  v4 := Try.zeroValue4,
  t5 := Try.underlying5,
  a5 := Try.isAgg5,
  z5 := Try.sizeOf5,
  v5 := Try.zeroValue5,
  t9 := Try.underlying9,
  a9 := Try.isAgg9,
  z9 := Try.sizeOf9,
  v9 := Try.zeroValue9,
  t22 := Try.underlying22,
  a22 := Try.isAgg22,
  z22 := Try.sizeOf22,
  v22 := Try.zeroValue22,
  t23 := Try.underlying22,
  a23 := Try.isAgg22,
  z23 := Try.sizeOf22,
  v23 := Try.zeroValue22,
  t25 := Try.underlying2,
  a25 := Try.isAgg2,
  z25 := Try.sizeOf2,
  v25 := Try.zeroValue2,
  t32 := Try.underlying82,
  a32 := Try.isAgg82,
  z32 := Try.sizeOf82,
  v32 := Try.zeroValue82,
  t35 := Try.underlying97,
  a35 := Try.isAgg97,
  z35 := Try.sizeOf97,
  v35 := Try.zeroValue97,
  t36 := Try.underlying98,
  a36 := Try.isAgg98,
  z36 := Try.sizeOf98,
  v36 := Try.zeroValue98,
  t41 := Try.underlying103,
  a41 := Try.isAgg103,
  z41 := Try.sizeOf103,
  v41 := Try.zeroValue103,
  t44 := Try.underlying106,
  a44 := Try.isAgg106,
  z44 := Try.sizeOf106,
  v44 := Try.zeroValue106,
  t46 := Try.underlying85,
  a46 := Try.isAgg85,
  z46 := Try.sizeOf85,
  v46 := Try.zeroValue85,
  t53 := Try.underlying109,
  a53 := Try.isAgg109,
  z53 := Try.sizeOf109,
  v53 := Try.zeroValue109,
  t57 := Try.underlying113,
  a57 := Try.isAgg113,
  z57 := Try.sizeOf113,
  v57 := Try.zeroValue113,
  t63 := Try.underlying115,
  a63 := Try.isAgg115,
  z63 := Try.sizeOf115,
  v63 := Try.zeroValue115,
  t64 := Try.underlying116,
  a64 := Try.isAgg116,
  z64 := Try.sizeOf116,
  v64 := Try.zeroValue116
}

theorem sortG_c (v : Value) (xs : List Int) (hn : xs.length ≤ 1048576) (B : Nat) (w : World) (h : OwnI 2 w B v xs) (hB : B ≤ w.heap.size) : Calls Try.prog 35 #[v] w fun e w' => e = .returned (.tuple #[]) ∧ OwnI 2 w' B v (sortI xs) ∧ RowKit.Below B w w' := by
  have h0 : w.ownsRow B 2 1 v xs.length (xs.map (Value.int .i64)) := h
  rcases h0.2 with ⟨rfl, hn0⟩ | ⟨g, cap, cur, rfl, hbase, hb, h1, h2, h3, h4⟩
  · exact sort_c _ xs (by omega) B w h hB
  · have hg : g < w.heap.size := (Array.getElem?_eq_some_iff.1 hb).1
    refine (AnyM.slices_Sort_int sortLay g 0 cap xs w (holds_of_blockI hb (by simpa using h4)) hg (by omega)).mono ?_
    rintro e w' ⟨rfl, n, os, rfl⟩
    rw [sortI_dec]
    have hl := sortI_len xs
    refine ⟨rfl, ?_, (RowKit.Below.refl _ _).grown (grownBy_sortedI _) hB (fun k hk => by injection hk with hk; omega)⟩
    show World.ownsRow _ _ _ _ _ _ _
    rw [hl]
    exact ⟨by simp [hl], .inr ⟨g, cap, _, rfl, hbase, heap_sortedI _ hb, h1, h2, by simp [putCells, h3], by rw [Nat.mul_one, ← hl]; exact take_putCellsI cur (sortI xs) (by omega)⟩⟩
end Go.Proofs.Yteddchnmjppdeaa
