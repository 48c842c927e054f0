/- What a growing world keeps. -/
import Derived.Test.YtbdhelekmdpbiaaOW
namespace Go.Proofs.Ytbdhelekmdpbiaa
open Go.ChangeShapes Go.WideShapes Go.ChangeAt Go.RowKit
set_option linter.unusedVariables false
set_option linter.unusedSimpArgs false

theorem grown_set {w w' : World} {b : Nat} (h : w.grownBy w' (some b)) (j : Nat) (v : Value) : w.grownBy (w'.setCell ⟨b, j, none⟩ v) (some b) :=
  ⟨h.os, h.tape, h.output, by simpa using h.size, fun k hk hne => (heap_setCell_other w' ⟨b, j, none⟩ k v (fun e => hne (by simp [e]))).trans (h.block k hk hne)⟩
theorem OwnI.kept {e : TypeId} {w w' : World} {B b : Nat} {v : Value} {xs : List Int} (h : OwnI e w B v xs) (hg : w.grownBy w' (some b)) (hb : b < B) : OwnI e w' B v xs := by
  have h0 : w.ownsRow B e 1 v xs.length (xs.map (Value.int .i64)) := h
  refine World.ownsRow.kept h0 hg ?_
  rcases hv : v.ownBlock with _ | k
  · exact .inl rfl
  · refine .inr fun q => ?_
    injection q with q
    have := (h.lt k hv).1
    omega
theorem RowI.kept {w w' : World} {A : Option Addr} {xs : List Int} {b : Nat} (h : RowI w A xs) (hg : w.grownBy w' (some b)) (hA : ∀ g o, A = some ⟨g, o, none⟩ → g ≠ b) : RowI w' A xs := fun hn => by
  obtain ⟨g, o, rfl, hl, hc⟩ := h hn
  refine ⟨g, o, rfl, Nat.lt_of_lt_of_le hl hg.size, fun i hi => ?_⟩
  rw [World.cell?_of_block (a := ⟨g, o + i, none⟩) (hg.block g hl (fun q => hA g o rfl (by injection q)))]
  exact hc i hi
theorem below_grown {a w w' : World} {B b : Nat} (h : Below B a w) (hg : w.grownBy w' (some b)) (hB : B ≤ w.heap.size) (hb : B ≤ b) : Below B a w' :=
  h.grown hg hB fun k hk => by injection hk with hk; omega
end Go.Proofs.Ytbdhelekmdpbiaa
