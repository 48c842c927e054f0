/- Texts cut at commas and lists read: the reference's side. -/
import Derived.Test.YthemojobalcopaaGreatDoorRZ
namespace Go.Proofs.YthemojobalcopaaGreatDoor
open Go.ChangeShapes Go.WideShapes Go.ChangeAt Go.RowKit Go.Shelf
set_option linter.unusedVariables false
set_option linter.unusedSimpArgs false

theorem drop_at {L : List UInt8} {i : Nat} {c : UInt8} (h : L[i]? = some c) : L.drop i = c :: L.drop (i + 1) := by
  rw [List.drop_eq_getElem_cons (List.getElem?_eq_some_iff.1 h).1, (List.getElem?_eq_some_iff.1 h).2]
theorem cut_step {L : List UInt8} {b i : Nat} (hb : b ≤ i) (h : L[i]? = some 44) (hn : 44 ∉ (L.drop b).take (i - b)) : cutL (L.drop b) = ((L.drop b).take (i - b)) :: cutL (L.drop (i + 1)) := by
  have e : L.drop b = (L.drop b).take (i - b) ++ 44 :: L.drop (i + 1) := by
    have h1 := List.take_append_drop (i - b) (L.drop b)
    rw [List.drop_drop, show b + (i - b) = i by omega, drop_at h] at h1
    exact h1.symm
  have h2 := cutL_app (L.drop (i + 1)) hn
  rw [← e] at h2
  exact h2
theorem no_step {L : List UInt8} {b i : Nat} {c : UInt8} (hb : b ≤ i) (h : L[i]? = some c) (hc : c ≠ 44) (hn : 44 ∉ (L.drop b).take (i - b)) : 44 ∉ (L.drop b).take (i + 1 - b) := by
  have e : (L.drop b)[i - b]? = some c := by rw [List.getElem?_drop, show b + (i - b) = i by omega]; exact h
  rw [show i + 1 - b = i - b + 1 by omega, take_snoc e, List.mem_append]
  rintro (h | h)
  · exact hn h
  · simp at h
    exact hc h.symm
end Go.Proofs.YthemojobalcopaaGreatDoor
