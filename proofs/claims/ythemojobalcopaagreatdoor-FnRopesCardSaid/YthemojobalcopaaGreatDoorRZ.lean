/- Numbers and cut texts of the reference. -/
import Derived.Test.YthemojobalcopaaGreatDoorRY
namespace Go.Proofs.YthemojobalcopaaGreatDoor
open Go.ChangeShapes Go.WideShapes Go.ChangeAt Go.RowKit Go.Shelf
open Lib (digitVal decFrom decNat)
set_option linter.unusedVariables false
set_option linter.unusedSimpArgs false

theorem idx_at {P : Program} (t : TypeId) (ht : P.underlying t = some .string) (s : ByteArray) (i : Nat) (c : UInt8) (h : s.data.toList[i]? = some c) (n : Int) (hn : n = i) (w : World) : (Instr.index t (.string s) (.int .i64 n)).run P w = .ok (.int .u8 (c.toNat : Int)) w := by
  subst hn
  have hl : i < s.data.toList.length := (List.getElem?_eq_some_iff.1 h).1
  have hs : i < s.size := by rw [size_len]; exact hl
  rw [run_index_string w t s .i64 _ ht, dif_pos ⟨by omega, by omega⟩]
  have e : s[((i : Int)).toNat]'(by simpa using hs) = c := by
    have e1 : s[i]'hs = c := by
      have := (List.getElem?_eq_some_iff.1 h).2
      rw [← this]
      rfl
    simpa using e1
  rw [e]
theorem decFrom_lt : ∀ (l : List UInt8) (a m : Nat), decFrom a l = some m → m < (a + 1) * 10 ^ l.length
  | [], a, m, h => by
    simp only [decFrom, Option.some.injEq] at h
    simp
    omega
  | b :: r, a, m, h => by
    rw [decFrom] at h
    cases hd : digitVal b with
    | none => rw [hd] at h; cases h
    | some d =>
      rw [hd] at h
      have h1 := decFrom_lt r _ m h
      have h2 := (dig_ofNat hd).2
      have h3 : (a * 10 + d + 1) * 10 ^ r.length ≤ ((a + 1) * 10) * 10 ^ r.length := Nat.mul_le_mul_right _ (by omega)
      rw [List.length_cons, Nat.pow_succ, Nat.mul_comm (10 ^ r.length) 10, ← Nat.mul_assoc]
      omega
theorem decFrom_lt18 {l : List UInt8} {k m : Nat} (h : decFrom 0 (l.take k) = some m) (hk : k ≤ 18) : m < 1000000000000000000 ∧ (k < 18 → m < 100000000000000000) := by
  have h1 := decFrom_lt _ _ _ h
  have h2 : (l.take k).length ≤ k := by rw [List.length_take]; omega
  have h3 : 10 ^ (l.take k).length ≤ 10 ^ 18 := Nat.pow_le_pow_right (by omega) (by omega)
  refine ⟨by omega, fun h4 => ?_⟩
  have h5 : 10 ^ (l.take k).length ≤ 10 ^ 17 := Nat.pow_le_pow_right (by omega) (by omega)
  omega
theorem decFrom_step {l : List UInt8} {k m : Nat} {b : UInt8} (h : decFrom 0 (l.take k) = some m) (hb : l[k]? = some b) : (∀ d, digitVal b = some d → decFrom 0 (l.take (k + 1)) = some (m * 10 + d)) ∧ (digitVal b = none → decFrom 0 l = none) := by
  constructor
  · intro d hd
    rw [take_snoc hb, decFrom_app, h, Option.bind_some, decFrom, hd]
    rfl
  · intro hd
    have e : l = l.take k ++ b :: l.drop (k + 1) := by
      have := List.take_append_drop k l
      rw [List.drop_eq_getElem_cons (List.getElem?_eq_some_iff.1 hb).1, (List.getElem?_eq_some_iff.1 hb).2] at this
      exact this.symm
    rw [e, decFrom_app, h, Option.bind_some, decFrom, hd]
theorem numO_pos {c : UInt8} {r : List UInt8} (hc : c ≠ 45) : numO (c :: r) = if (c :: r).length ≤ 18 ∧ (c = 48 → r = []) then (decFrom 0 (c :: r)).map (fun (m : Nat) => (m : Int)) else none := by
  rw [numO, if_neg hc]
  rfl
theorem numO_neg {c : UInt8} {r : List UInt8} : numO (45 :: c :: r) = if (c :: r).length ≤ 18 ∧ c ≠ 48 then (decFrom 0 (c :: r)).map (fun (m : Nat) => -(m : Int)) else none := by
  rw [numO, if_pos rfl]
  simp only [List.head?_cons, ne_eq, Option.some.injEq]
  rfl
theorem numO_one : numO [45] = none := by
  rw [numO, if_pos rfl]
  simp [decNat]
theorem u8_ne {c : UInt8} {n : Nat} (hn : n < 256) (h : c ≠ UInt8.ofNat n) : (c.toNat : Int) ≠ n := fun e => h (by
  apply UInt8.toNat_inj.1
  rw [UInt8.toNat_ofNat']
  omega)
end Go.Proofs.YthemojobalcopaaGreatDoor
