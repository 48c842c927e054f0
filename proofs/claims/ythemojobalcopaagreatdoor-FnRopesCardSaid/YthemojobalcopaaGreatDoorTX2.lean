/- Texts of lists: both sides. -/
import Derived.Test.YthemojobalcopaaGreatDoorTX
import Derived.Test.YthemojobalcopaaGreatDoorF
import Derived.Shelf.Strconv.Itoa4
import Derived.Shelf.Strings.OnBuilder
import Derived.Ground.NamesProg
namespace Go.Proofs.YthemojobalcopaaGreatDoor
open Go.ChangeShapes Go.WideShapes Go.ChangeAt Go.RowKit Go.Shelf
set_option linter.unusedVariables false
set_option linter.unusedSimpArgs false

/-- The text of the first k numbers. -/
def lstTo (xs : List Int) : Nat → List UInt8
  | 0 => []
  | k + 1 => (if k = 0 then [] else lstTo xs k ++ [44]) ++ Lib.itoa (nth xs k)
theorem itoa_len {n : Int} (h : I64 n) : (Lib.itoa n).length ≤ 21 := by
  obtain ⟨h0, h1⟩ := h
  unfold Lib.itoa
  split
  · have := decDigits_len 19 n.natAbs (by omega)
    simp
    omega
  · have := decDigits_len 19 n.toNat (by omega)
    omega
theorem lstTo_len {xs : List Int} (hv : ∀ k, k < xs.length → I64 (nth xs k)) : ∀ k, k ≤ xs.length → (lstTo xs k).length ≤ 22 * k
  | 0, _ => by simp [lstTo]
  | k + 1, h => by
    have h1 := lstTo_len hv k (by omega)
    have h2 := itoa_len (hv k (by omega))
    rw [lstTo]
    split <;> simp <;> omega
theorem strcat (a b : List UInt8) : (⟨a.toArray⟩ : ByteArray) ++ ⟨b.toArray⟩ = ⟨(a ++ b).toArray⟩ := by
  apply ByteArray.ext
  simp
def fmtLay_ren : Go.Shelf.Ren := ⟨fun | 173 => 52 | 246 => 59 | 283 => 68 | 284 => 69 | 285 => 70 | 286 => 71 | 129 => 85 | 317 => 84 | 318 => 86 | 319 => 87 | 320 => 88 | 337 => 99 | 338 => 100 | n => n, fun | 2 => 2 | 3 => 3 | 9 => 9 | 4 => 4 | 171 => 92 | 0 => 0 | 53 => 59 | 37 => 22 | 5 => 5 | 173 => 95 | 212 => 113 | 51 => 114 | 20 => 20 | 213 => 115 | 46 => 68 | 232 => 134 | 233 => 135 | n => n, fun | 17 => 0 | 18 => 6 | 19 => 7 | n => n⟩
theorem fmtLay : Go.Proofs.LaysM.n173 Tryz.prog fmtLay_ren := {
  mixed := by kernel_rfl,
  f129 := Tryz.func85.trans (congrArg some (by kernel_rfl)),
  f173 := Tryz.func52.trans (congrArg some (by kernel_rfl)),
  f246 := Tryz.func59.trans (congrArg some (by kernel_rfl)),
  f283 := Tryz.func68.trans (congrArg some (by kernel_rfl)),
  f284 := Tryz.func69.trans (congrArg some (by kernel_rfl)),
  f285 := Tryz.func70.trans (congrArg some (by kernel_rfl)),
  f286 := Tryz.func71.trans (congrArg some (by kernel_rfl)),
  f317 := Tryz.func84.trans (congrArg some (by kernel_rfl)),
  f318 := Tryz.func86.trans (congrArg some (by kernel_rfl)),
  f319 := Tryz.func87.trans (congrArg some (by kernel_rfl)),
  f320 := Tryz.func88.trans (congrArg some (by kernel_rfl)),
  f337 := Tryz.func99.trans (congrArg some (by kernel_rfl)),
  f338 := Tryz.func100.trans (congrArg some (by kernel_rfl)),
  t0 := Tryz.underlying0,
  a0 := Tryz.isAgg0,
  z0 := Tryz.sizeOf0,
  v0 := Tryz.zeroValue0,
  t2 := Tryz.underlying2,
  a2 := Tryz.isAgg2,
  z2 := Tryz.sizeOf2,
  v2 := Tryz.zeroValue2,
  t3 := Tryz.underlying3,
  a3 := Tryz.isAgg3,
  z3 := Tryz.sizeOf3,
  v3 := Tryz.zeroValue3,
  t4 := Tryz.underlying4,
  a4 := Tryz.isAgg4,
  z4 := Tryz.sizeOf4,
  v4 := Tryz.zeroValue4,
  t5 := Tryz.underlying5,
  a5 := Tryz.isAgg5,
  z5 := Tryz.sizeOf5,
  v5 := Tryz.zeroValue5,
  t9 := Tryz.underlying9,
  a9 := Tryz.isAgg9,
  z9 := Tryz.sizeOf9,
  v9 := Tryz.zeroValue9,
  t20 := Tryz.underlying20,
  a20 := Tryz.isAgg20,
  z20 := Tryz.sizeOf20,
  v20 := Tryz.zeroValue20,
  t37 := Tryz.underlying22,
  a37 := Tryz.isAgg22,
  z37 := Tryz.sizeOf22,
  v37 := Tryz.zeroValue22,
  t46 := Tryz.underlying68,
  a46 := Tryz.isAgg68,
  z46 := Tryz.sizeOf68,
  v46 := Tryz.zeroValue68,
  t51 := Tryz.underlying114,
  a51 := Tryz.isAgg114,
  z51 := Tryz.sizeOf114,
  v51 := Tryz.zeroValue114,
  t53 := Tryz.underlying59,
  a53 := Tryz.isAgg59,
  z53 := Tryz.sizeOf59,
  v53 := Tryz.zeroValue59,
  t171 := Tryz.underlying92,
  a171 := Tryz.isAgg92,
  z171 := Tryz.sizeOf92,
  v171 := Tryz.zeroValue92,
  t173 := Tryz.underlying95,
  a173 := Tryz.isAgg95,
  z173 := Tryz.sizeOf95,
  v173 := Tryz.zeroValue95,
  t212 := Tryz.underlying113,
  a212 := Tryz.isAgg113,
  z212 := Tryz.sizeOf113,
  v212 := Tryz.zeroValue113,
  t213 := Tryz.underlying115,
  a213 := Tryz.isAgg115,
  z213 := Tryz.sizeOf115,
  t232 := Tryz.underlying134,
  a232 := Tryz.isAgg134,
  z232 := Tryz.sizeOf134,
  v232 := Tryz.zeroValue134,
  t233 := Tryz.underlying135,
  a233 := Tryz.isAgg135,
  z233 := Tryz.sizeOf135,
  v233 := Tryz.zeroValue135,
  g17 := by kernel_rfl,
  g18 := by kernel_rfl,
  g19 := by kernel_rfl,
  i0 := by kernel_rfl,
  i2 := by kernel_rfl,
  i3 := by kernel_rfl,
  i4 := by kernel_rfl,
  i5 := by kernel_rfl,
  i9 := by kernel_rfl,
  i20 := by kernel_rfl,
  i37 := by kernel_rfl,
  i46 := by kernel_rfl,
  i51 := by kernel_rfl,
  i53 := by kernel_rfl,
  i171 := by kernel_rfl,
  i173 := by kernel_rfl,
  i212 := by kernel_rfl,
  i232 := by kernel_rfl,
  i233 := by kernel_rfl,
  m17 := by kernel_rfl,
  m18 := by kernel_rfl,
  m19 := by kernel_rfl
}

theorem formatInt_c (n : Int) (hI : I64 n) (w : World) (htab : Lib.TabIs Tryz.prog w "internal/strconv.uint64pow10" .u64 Lib.pow10Tab) : Calls Tryz.prog 52 #[.int .i64 n, .int .i64 10] w fun e w' => e = .returned (.string ⟨(Lib.itoa n).toArray⟩) ∧ Below w.heap.size w w' := by
  refine (Any.strconv_FormatInt_10 fmtLay n hI.1 hI.2 w htab).mono ?_
  rintro e w' ⟨rfl, k, os, rfl⟩
  exact ⟨rfl, rfl, rfl, rfl, by simp, fun j hj => by rw [Sort.heap_grow_old _ _ (by simpa using hj)]; rfl⟩
def joinLay_ren : Go.Shelf.Ren := ⟨fun | 156 => 48 | 165 => 53 | 166 => 54 | 169 => 55 | 240 => 60 | 241 => 61 | 276 => 72 | 277 => 73 | n => n, fun | 31 => 65 | 9 => 9 | 3 => 3 | 4 => 4 | 0 => 0 | 20 => 20 | 72 => 76 | 76 => 80 | 70 => 74 | 37 => 22 | 75 => 79 | 127 => 87 | 164 => 97 | 5 => 5 | 80 => 82 | n => n, fun | n => n⟩
theorem joinLay : Go.Proofs.Lays.n156 Tryz.prog joinLay_ren := {
  mixed := by kernel_rfl,
  f156 := Tryz.func48.trans (congrArg some (by kernel_rfl)),
  f165 := Tryz.func53.trans (congrArg some (by kernel_rfl)),
  f166 := Tryz.func54.trans (congrArg some (by kernel_rfl)),
  f169 := Tryz.func55.trans (congrArg some (by kernel_rfl)),
  f240 := Tryz.func60.trans (congrArg some (by kernel_rfl)),
  f241 := Tryz.func61.trans (congrArg some (by kernel_rfl)),
  f276 := Tryz.func72.trans (congrArg some (by kernel_rfl)),
  f277 := Tryz.func73.trans (congrArg some (by kernel_rfl)),
  t0 := Tryz.underlying0,
  a0 := Tryz.isAgg0,
  z0 := Tryz.sizeOf0,
  v0 := Tryz.zeroValue0,
  t3 := Tryz.underlying3,
  a3 := Tryz.isAgg3,
  z3 := Tryz.sizeOf3,
  v3 := Tryz.zeroValue3,
  t4 := Tryz.underlying4,
  a4 := Tryz.isAgg4,
  z4 := Tryz.sizeOf4,
  v4 := Tryz.zeroValue4,
  t9 := Tryz.underlying9,
  a9 := Tryz.isAgg9,
  z9 := Tryz.sizeOf9,
  v9 := Tryz.zeroValue9,
  t20 := Tryz.underlying20,
  a20 := Tryz.isAgg20,
  z20 := Tryz.sizeOf20,
  v20 := Tryz.zeroValue20,
  t31 := Tryz.underlying65,
  a31 := Tryz.isAgg65,
  z31 := Tryz.sizeOf65,
  v31 := Tryz.zeroValue65,
  t37 := Tryz.underlying22,
  a37 := Tryz.isAgg22,
  z37 := Tryz.sizeOf22,
  v37 := Tryz.zeroValue22,
  t70 := Tryz.underlying74,
  a70 := Tryz.isAgg74,
  z70 := Tryz.sizeOf74,
  v70 := Tryz.zeroValue74,
  t72 := Tryz.underlying76,
  a72 := Tryz.isAgg76,
  z72 := Tryz.sizeOf76,
  v72 := Tryz.zeroValue76,
  t75 := Tryz.underlying79,
  a75 := Tryz.isAgg79,
  z75 := Tryz.sizeOf79,
  v75 := Tryz.zeroValue79,
  t76 := Tryz.underlying80,
  a76 := Tryz.isAgg80,
  z76 := Tryz.sizeOf80,
  v76 := Tryz.zeroValue80,
  t127 := Tryz.underlying87,
  a127 := Tryz.isAgg87,
  z127 := Tryz.sizeOf87,
  v127 := Tryz.zeroValue87,
  t164 := Tryz.underlying97,
  a164 := Tryz.isAgg97,
  z164 := Tryz.sizeOf97,
  v164 := Tryz.zeroValue97
}

theorem joinExtra : Builder.Extra Tryz.prog joinLay_ren where
  sizeBuilder := by kernel_rfl
  liesBuilder := by kernel_rfl
  t5 := Tryz.underlying5
  a5 := Tryz.isAgg5
  z5 := Tryz.sizeOf5
  v5 := Tryz.zeroValue5
  infoByte := by kernel_rfl
  cellsByte := by kernel_rfl
  sizeByte := by kernel_rfl
  neB5 := by decide
theorem join_c (bk c : Nat) (xs : List ByteArray) (sep : ByteArray) (w : World) (hcells : ∀ (j : Nat) x, xs[j]? = some x → w.cell? ⟨bk, j, none⟩ = some (.string x)) (hbk : bk < w.heap.size) (hN : xs.length ≤ 140737488355328) (hcap : xs.length ≤ c) (hlen : (Lib.join (xs.map (·.data.toList)) sep.data.toList).length ≤ 140737488355328) : Calls Tryz.prog 48 #[.slice (some ⟨bk, 0, none⟩) xs.length c, .string sep] w fun e w' => e = .returned (.string ⟨(Lib.join (xs.map (·.data.toList)) sep.data.toList).toArray⟩) ∧ Below w.heap.size w w' :=
  Any.strings_Join joinLay joinExtra bk 0 c xs sep w (fun j x h => by rw [Nat.zero_add]; exact hcells j x h) hbk hN hcap hlen
end Go.Proofs.YthemojobalcopaaGreatDoor
