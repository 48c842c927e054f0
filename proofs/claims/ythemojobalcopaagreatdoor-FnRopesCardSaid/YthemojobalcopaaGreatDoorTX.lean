/- Texts of numbers and of lists: the reference's side. -/
import Derived.Test.YthemojobalcopaaGreatDoorOV
import Derived.Lib.ItoaMem
import Derived.Lib.Join
namespace Go.Proofs.YthemojobalcopaaGreatDoor
open Go.ChangeShapes Go.WideShapes Go.ChangeAt Go.RowKit
set_option linter.unusedVariables false
set_option linter.unusedSimpArgs false

def encB (b : UInt8) : Value := .int .u8 (b.toNat : Int)
theorem encB_dig {r : Nat} (hr : r < 10) : encB (UInt8.ofNat (48 + r)) = .int .u8 (48 + (r : Int)) := by
  unfold encB
  rw [UInt8.toNat_ofNat_of_lt' (by show 48 + r < 256; omega)]
  push_cast
  rfl
theorem decDigits_len : ∀ k u, u < 10 ^ k → (Lib.decDigits u).length ≤ k + 1
  | 0, u, h => by
    rw [Lib.decDigits, dif_pos (by simp at h; omega)]
    simp
  | k + 1, u, h => by
    rw [Lib.decDigits]
    split
    · simp
    · have := decDigits_len k (u / 10) (by rw [Nat.pow_succ] at h; omega)
      rw [List.length_append]
      simp
      omega
theorem decDigits_step {u : Nat} (h : u ≠ 0) (ds : List UInt8) : (if u = 0 then ds.reverse else Lib.decDigits u ++ ds.reverse) = (if u / 10 = 0 then (ds ++ [UInt8.ofNat (48 + u % 10)]).reverse else Lib.decDigits (u / 10) ++ (ds ++ [UInt8.ofNat (48 + u % 10)]).reverse) := by
  rw [if_neg h, Lib.decDigits]
  by_cases h1 : u < 10
  · rw [dif_pos h1, if_pos (by omega), Nat.mod_eq_of_lt h1]
    simp
  · rw [dif_neg h1, if_neg (by omega)]
    simp
theorem map_snoc (ds : List UInt8) (b : UInt8) : ds.map encB ++ [encB b] = (ds ++ [b]).map encB := by simp
theorem drop_rev (es : List UInt8) (j : Nat) (h : j < es.length) : (es.drop (j + 1)).reverse ++ [es[j]] = (es.drop j).reverse := by
  rw [List.drop_eq_getElem_cons h, List.reverse_cons]
def DecN (e : TypeId) (U : Nat) (w : World) (v m : Value) (wr : World) : Prop := ∃ (u : Nat) (ds : List UInt8), u ≤ U ∧ m = .int .i64 (-(u : Int)) ∧ Hid (Lib.decDigits U = if u = 0 then ds.reverse else Lib.decDigits u ++ ds.reverse) ∧ Hid (wr.ownsRow w.heap.size e 1 v ds.length (ds.map encB)) ∧ Below w.heap.size w wr
def DecP (e : TypeId) (U : Nat) (w : World) (v m : Value) (wr : World) : Prop := ∃ (u : Nat) (ds : List UInt8), u ≤ U ∧ m = .int .i64 (u : Int) ∧ Hid (Lib.decDigits U = if u = 0 then ds.reverse else Lib.decDigits u ++ ds.reverse) ∧ Hid (wr.ownsRow w.heap.size e 1 v ds.length (ds.map encB)) ∧ Below w.heap.size w wr
def RevR (e : TypeId) (es : List UInt8) (W : World) (v i : Value) (wr : World) : Prop := ∃ j : Nat, j ≤ es.length ∧ (j = 0 ∧ i = .int .i64 (-1) ∨ ∃ k, j = k + 1 ∧ i = .int .i64 (k : Int)) ∧ Hid (wr.ownsRow W.heap.size e 1 v (es.length - j) ((es.drop j).reverse.map encB)) ∧ Below W.heap.size W wr
theorem own_shape_pos {e : TypeId} {w : World} {B n : Nat} {v : Value} {xs : List Value} (h : w.ownsRow B e 1 v n xs) (hn : 0 < n) : ∃ g c, v = .slice (some ⟨g, 0, none⟩) n c ∧ B ≤ g ∧ g < w.heap.size ∧ n ≤ c ∧ ∀ i, i < n → w.cell? ⟨g, i, none⟩ = xs[i]? := by
  rcases own_shape h with ⟨_, h0⟩ | h
  · omega
  · exact h
end Go.Proofs.YthemojobalcopaaGreatDoor
