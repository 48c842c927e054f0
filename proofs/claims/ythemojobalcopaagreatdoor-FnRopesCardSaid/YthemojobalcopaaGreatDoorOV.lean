/- Slices of bytes and of strings that a call makes: append of one element, the cells, what stands behind a call. -/
import Derived.Test.YthemojobalcopaaGreatDoorOW
import Derived.Laws.IdiomStrings
namespace Go.Proofs.YthemojobalcopaaGreatDoor
open Go.ChangeShapes Go.WideShapes Go.ChangeAt Go.RowKit
set_option linter.unusedVariables false
set_option linter.unusedSimpArgs false

theorem own_below {e : TypeId} {w w' : World} {B sz n : Nat} {v : Value} {xs : List Value} (h : w.ownsRow B e sz v n xs) (hb : Below w.heap.size w w') : w'.ownsRow B e sz v n xs := by
  refine ⟨h.1, ?_⟩
  rcases h.2 with hn | ⟨g, cap, cur, rfl, hbb, hg, rest⟩
  · exact .inl hn
  · exact .inr ⟨g, cap, cur, rfl, hbb, (hb.block g (Array.getElem?_eq_some_iff.1 hg).1).trans hg, rest⟩
theorem own_mono {e : TypeId} {w : World} {B B' sz n : Nat} {v : Value} {xs : List Value} (h : w.ownsRow B e sz v n xs) (hB : B' ≤ B) : w.ownsRow B' e sz v n xs := by
  refine ⟨h.1, ?_⟩
  rcases h.2 with hn | ⟨g, cap, cur, rfl, hbb, rest⟩
  · exact .inl hn
  · exact .inr ⟨g, cap, cur, rfl, Nat.le_trans hB hbb, rest⟩
theorem own_drewN {e : TypeId} {w : World} {B sz n : Nat} {v : Value} {xs : List Value} (h : w.ownsRow B e sz v n xs) (k : Nat) : (w.drewN k).ownsRow B e sz v n xs := h
/-- The slice's shape: nil, or a block of its own with its cells. -/
theorem own_shape {e : TypeId} {w : World} {B n : Nat} {v : Value} {xs : List Value} (h : w.ownsRow B e 1 v n xs) : (v = .slice none 0 0 ∧ n = 0) ∨ ∃ g c, v = .slice (some ⟨g, 0, none⟩) n c ∧ B ≤ g ∧ g < w.heap.size ∧ n ≤ c ∧ ∀ i, i < n → w.cell? ⟨g, i, none⟩ = xs[i]? := by
  rcases h.2 with ⟨rfl, hn⟩ | ⟨g, cap, cur, rfl, hb, hg, hc, _⟩
  · exact .inl ⟨rfl, hn⟩
  · exact .inr ⟨g, cap, rfl, hb, (Array.getElem?_eq_some_iff.1 hg).1, hc, fun i hi => World.ownsRow.cellAt h i (by omega)⟩
/-- append of one element of one cell to a slice that the call owns -/
theorem wpList_pushV {P : Program} {w : World} {ops : Array Oper} {rest : List Oper} {o : Oper} {a : Act} {Q : Exit → Act → World → Prop} (hgd : o.guard = none) (s x : Operand) (t : TypeId)
    (ho : o.op = .call { callee := .builtin .append, args := #[s, x], argTypes := #[t, t] }) {e : TypeId} (ht : P.underlying t = some (.slice e)) {zv : Value} {bts : Nat} (hinfo : (P.info? e).map (fun i => (i.zero, i.size, i.bytes)) = some (some zv, 1, bts)) (hz : zv.cells.size = 1) (hbt : bts ≤ 64)
    {w0 : World} {B n : Nat} {v : Value} {xs : List Value} (y : Value) {t' : TypeId} (hs : a.eval s = v) (hown : w0.ownsRow B e 1 v n xs) (hw : w = w0.alloc (.cells #[y] t')) (hx : a.eval x = .slice (some ⟨w0.heap.size, 0, none⟩) 1 1) (hy : y.oneCell' = true) (hlen : n ≤ 1048576) (hB : B ≤ w0.heap.size)
    (h : ∀ v' w', w'.ownsRow B e 1 v' (n + 1) (xs ++ [y]) → Below B w0 w' → wpList P ops Q rest (a.put o.dst v') w') : wpList P ops Q (o :: rest) a w := by
  obtain ⟨i0, hi, hz0, hz1, hz2⟩ := info_parts hinfo
  subst hw
  refine wpList_append_own _ hgd s x t ho B e i0 zv 1 bts ht hi hz0 hz1 hz2 hz (by decide) v n _ hs (World.ownsRow.alloc hown _) ⟨w0.heap.size, 0, none⟩ 1 1 [y] hx rfl new_cells ?_ ?_ ?_ ?_ ?_
  · intro u hu
    simp at hu
    subst hu
    exact hy
  · unfold maxLen
    omega
  · have : (n + 1) * bts ≤ (n + 1) * 64 := Nat.mul_le_mul_left _ hbt
    omega
  · simp
    omega
  · intro v' w' ho' hg _
    exact h v' w' ho' ((((Below.refl _ _).alloc hB _).grown hg (by simp; omega) fun k hk => (World.ownsRow.lt hown k hk).1))
theorem uint8_info : (Tryz.prog.info? 5).map (fun i => (i.zero, i.size, i.bytes)) = some (some (.int .u8 0), 1, 1) := by kernel_rfl
theorem string_info : (Tryz.prog.info? 9).map (fun i => (i.zero, i.size, i.bytes)) = some (some (.string ByteArray.empty), 1, 16) := by kernel_rfl
end Go.Proofs.YthemojobalcopaaGreatDoor
