/- The laws' marks on lists of hours and of limits. -/
import Derived.Test.YtbdhelekmdpbiaaZ
import Derived.Test.YtbdhelekmdpbiaaOW
import Derived.Test.YtbdhelekmdpbiaaGK
namespace Go.Proofs.Ytbdhelekmdpbiaa
open Go.ChangeShapes Go.WideShapes Go.ChangeAt Go.RowKit
set_option linter.unusedVariables false
set_option linter.unusedSimpArgs false

/-- A block of numbers that may be written. -/
def AllInts (b m : Nat) (w : World) : Prop := b < w.heap.size ∧ ∀ i, i < m → (∃ y : Int, w.cell? ⟨b, i, none⟩ = some (.int .i64 y)) ∧ w.frozen? ⟨b, i, none⟩ = false
theorem AllInts.of {b : Nat} {z : List Int} {w : World} (h : MixAt b z z.length w) : AllInts b z.length w := ⟨h.1, fun i hi => ⟨⟨_, (h.2 i hi).1⟩, (h.2 i hi).2⟩⟩
theorem AllInts.below {b m : Nat} {w w' : World} (h : AllInts b m w) (hb : Below w.heap.size w w') : AllInts b m w' :=
  ⟨Nat.lt_of_lt_of_le h.1 hb.size, fun i hi => by
    obtain ⟨⟨y, hy⟩, hf⟩ := h.2 i hi
    exact ⟨⟨y, (hb.cell (p := ⟨b, i, none⟩) h.1).trans hy⟩, (hb.frozen (p := ⟨b, i, none⟩) h.1).trans hf⟩⟩
theorem AllInts.set {b m : Nat} {w : World} (h : AllInts b m w) (j : Nat) (y : Int) : AllInts b m (w.setCell ⟨b, j, none⟩ (.int .i64 y)) := by
  refine ⟨by simpa using h.1, fun i hi => ?_⟩
  obtain ⟨⟨u, hu⟩, hf⟩ := h.2 i hi
  refine ⟨?_, by simpa using hf⟩
  by_cases e : i = j
  · subst e
    exact ⟨y, by simp [hu, go_sem]⟩
  · have hne : (⟨b, j, none⟩ : Addr) ≠ ⟨b, i, none⟩ := by
      intro q
      injection q with _ q2 _
      exact e q2.symm
    exact ⟨u, by rw [World.cell?_setCell_other _ _ _ _ (by first | exact hne | exact hne.symm), hu]⟩
theorem AllInts.kept {w w' : World} {b b' m : Nat} (h : AllInts b m w) (hg : w.grownBy w' (some b')) (hne : b ≠ b') : AllInts b m w' :=
  ⟨Nat.lt_of_lt_of_le h.1 hg.size, fun i hi => by
    have hk := hg.block b h.1 (fun q => hne (by injection q))
    obtain ⟨⟨y, hy⟩, hf⟩ := h.2 i hi
    exact ⟨⟨y, (World.cell?_of_block (a := ⟨b, i, none⟩) hk).trans hy⟩, (World.frozen?_of_block (a := ⟨b, i, none⟩) hk).trans hf⟩⟩
end Go.Proofs.Ytbdhelekmdpbiaa
