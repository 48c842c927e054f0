/- Texts of lists: both sides. -/
import Derived.Test.YtapafambhidlhaaDoorTX
import Derived.Test.YtapafambhidlhaaDoorF
import Derived.Shelf.Strconv.Itoa4
import Derived.Shelf.Strings.OnBuilder
import Derived.Ground.NamesProg
namespace Go.Proofs.YtapafambhidlhaaDoor
open Go.ChangeShapes Go.WideShapes Go.ChangeAt Go.RowKit Go.Shelf
set_option linter.unusedVariables false
set_option linter.unusedSimpArgs false

/-- The text of the first k numbers. -/
def lstTo (xs : List Int) : Nat → List UInt8
  | 0 => []
  | k + 1 => (if k = 0 then [] else lstTo xs k ++ [44]) ++ Lib.itoa (nth xs k)
theorem itoa_len {n : Int} (h : I64 n) : (Lib.itoa n).length ≤ 21 := by
  obtain ⟨h0, h1⟩ := h
  unfold Lib.itoa
  split
  · have := decDigits_len 19 n.natAbs (by omega)
    simp
    omega
  · have := decDigits_len 19 n.toNat (by omega)
    omega
theorem lstTo_len {xs : List Int} (hv : ∀ k, k < xs.length → I64 (nth xs k)) : ∀ k, k ≤ xs.length → (lstTo xs k).length ≤ 22 * k
  | 0, _ => by simp [lstTo]
  | k + 1, h => by
    have h1 := lstTo_len hv k (by omega)
    have h2 := itoa_len (hv k (by omega))
    rw [lstTo]
    split <;> simp <;> omega
theorem strcat (a b : List UInt8) : (⟨a.toArray⟩ : ByteArray) ++ ⟨b.toArray⟩ = ⟨(a ++ b).toArray⟩ := by
  apply ByteArray.ext
  simp
def fmtLay_ren : Go.Shelf.Ren := ⟨fun | 173 => 46 | 246 => 54 | 283 => 63 | 284 => 64 | 285 => 65 | 286 => 66 | 129 => 80 | 317 => 79 | 318 => 81 | 319 => 82 | 320 => 83 | 337 => 94 | 338 => 95 | n => n, fun | 2 => 2 | 3 => 3 | 9 => 9 | 4 => 4 | 171 => 99 | 0 => 0 | 53 => 63 | 37 => 22 | 5 => 5 | 173 => 102 | 212 => 120 | 51 => 121 | 20 => 20 | 213 => 122 | 46 => 89 | 232 => 141 | 233 => 142 | n => n, fun | 17 => 0 | 18 => 6 | 19 => 7 | n => n⟩
theorem fmtLay : Go.Proofs.LaysM.n173 Tryd.prog fmtLay_ren := {
  mixed := by kernel_rfl,
  f129 := Tryd.func80.trans (congrArg some (by kernel_rfl)),
  f173 := Tryd.func46.trans (congrArg some (by kernel_rfl)),
  f246 := Tryd.func54.trans (congrArg some (by kernel_rfl)),
  f283 := Tryd.func63.trans (congrArg some (by kernel_rfl)),
  f284 := Tryd.func64.trans (congrArg some (by kernel_rfl)),
  f285 := Tryd.func65.trans (congrArg some (by kernel_rfl)),
  f286 := Tryd.func66.trans (congrArg some (by kernel_rfl)),
  f317 := Tryd.func79.trans (congrArg some (by kernel_rfl)),
  f318 := Tryd.func81.trans (congrArg some (by kernel_rfl)),
  f319 := Tryd.func82.trans (congrArg some (by kernel_rfl)),
  f320 := Tryd.func83.trans (congrArg some (by kernel_rfl)),
  f337 := Tryd.func94.trans (congrArg some (by kernel_rfl)),
  f338 := Tryd.func95.trans (congrArg some (by kernel_rfl)),
  t0 := Tryd.underlying0,
  a0 := Tryd.isAgg0,
  z0 := Tryd.sizeOf0,
  v0 := Tryd.zeroValue0,
  t2 := Tryd.underlying2,
  a2 := Tryd.isAgg2,
  z2 := Tryd.sizeOf2,
  v2 := Tryd.zeroValue2,
  t3 := Tryd.underlying3,
  a3 := Tryd.isAgg3,
  z3 := Tryd.sizeOf3,
  v3 := Tryd.zeroValue3,
  t4 := Tryd.underlying4,
  a4 := Tryd.isAgg4,
  z4 := Tryd.sizeOf4,
  v4 := Tryd.zeroValue4,
  t5 := Tryd.underlying5,
  a5 := Tryd.isAgg5,
  z5 := Tryd.sizeOf5,
  v5 := Tryd.zeroValue5,
  t9 := Tryd.underlying9,
  a9 := Tryd.isAgg9,
  z9 := Tryd.sizeOf9,
  v9 := Tryd.zeroValue9,
  t20 := Tryd.underlying20,
  a20 := Tryd.isAgg20,
  z20 := Tryd.sizeOf20,
  v20 := Tryd.zeroValue20,
  t37 := Tryd.underlying22,
  a37 := Tryd.isAgg22,
  z37 := Tryd.sizeOf22,
  v37 := Tryd.zeroValue22,
  t46 := Tryd.underlying89,
  a46 := Tryd.isAgg89,
  z46 := Tryd.sizeOf89,
  v46 := Tryd.zeroValue89,
  t51 := Tryd.underlying121,
  a51 := Tryd.isAgg121,
  z51 := Tryd.sizeOf121,
  v51 := Tryd.zeroValue121,
  t53 := Tryd.underlying63,
  a53 := Tryd.isAgg63,
  z53 := Tryd.sizeOf63,
  v53 := Tryd.zeroValue63,
  t171 := Tryd.underlying99,
  a171 := Tryd.isAgg99,
  z171 := Tryd.sizeOf99,
  v171 := Tryd.zeroValue99,
  t173 := Tryd.underlying102,
  a173 := Tryd.isAgg102,
  z173 := Tryd.sizeOf102,
  v173 := Tryd.zeroValue102,
  t212 := Tryd.underlying120,
  a212 := Tryd.isAgg120,
  z212 := Tryd.sizeOf120,
  v212 := Tryd.zeroValue120,
  t213 := Tryd.underlying122,
  a213 := Tryd.isAgg122,
  z213 := Tryd.sizeOf122,
  t232 := Tryd.underlying141,
  a232 := Tryd.isAgg141,
  z232 := Tryd.sizeOf141,
  v232 := Tryd.zeroValue141,
  t233 := Tryd.underlying142,
  a233 := Tryd.isAgg142,
  z233 := Tryd.sizeOf142,
  v233 := Tryd.zeroValue142,
  g17 := by kernel_rfl,
  g18 := by kernel_rfl,
  g19 := by kernel_rfl,
  i0 := by kernel_rfl,
  i2 := by kernel_rfl,
  i3 := by kernel_rfl,
  i4 := by kernel_rfl,
  i5 := by kernel_rfl,
  i9 := by kernel_rfl,
  i20 := by kernel_rfl,
  i37 := by kernel_rfl,
  i46 := by kernel_rfl,
  i51 := by kernel_rfl,
  i53 := by kernel_rfl,
  i171 := by kernel_rfl,
  i173 := by kernel_rfl,
  i212 := by kernel_rfl,
  i232 := by kernel_rfl,
  i233 := by kernel_rfl,
  m17 := by kernel_rfl,
  m18 := by kernel_rfl,
  m19 := by kernel_rfl
}

theorem formatInt_c (n : Int) (hI : I64 n) (w : World) (htab : Lib.TabIs Tryd.prog w "internal/strconv.uint64pow10" .u64 Lib.pow10Tab) : Calls Tryd.prog 46 #[.int .i64 n, .int .i64 10] w fun e w' => e = .returned (.string ⟨(Lib.itoa n).toArray⟩) ∧ Below w.heap.size w w' := by
  refine (Any.strconv_FormatInt_10 fmtLay n hI.1 hI.2 w htab).mono ?_
  rintro e w' ⟨rfl, k, os, rfl⟩
  exact ⟨rfl, rfl, rfl, rfl, by simp, fun j hj => by rw [Sort.heap_grow_old _ _ (by simpa using hj)]; rfl⟩
def joinLay_ren : Go.Shelf.Ren := ⟨fun | 156 => 37 | 165 => 47 | 166 => 48 | 169 => 49 | 240 => 55 | 241 => 56 | 276 => 67 | 277 => 68 | n => n, fun | 31 => 56 | 9 => 9 | 3 => 3 | 4 => 4 | 0 => 0 | 20 => 20 | 72 => 81 | 76 => 85 | 70 => 79 | 37 => 22 | 75 => 84 | 127 => 94 | 164 => 104 | 5 => 5 | 80 => 87 | n => n, fun | n => n⟩
theorem joinLay : Go.Proofs.Lays.n156 Tryd.prog joinLay_ren := {
  mixed := by kernel_rfl,
  f156 := Tryd.func37.trans (congrArg some (by kernel_rfl)),
  f165 := Tryd.func47.trans (congrArg some (by kernel_rfl)),
  f166 := Tryd.func48.trans (congrArg some (by kernel_rfl)),
  f169 := Tryd.func49.trans (congrArg some (by kernel_rfl)),
  f240 := Tryd.func55.trans (congrArg some (by kernel_rfl)),
  f241 := Tryd.func56.trans (congrArg some (by kernel_rfl)),
  f276 := Tryd.func67.trans (congrArg some (by kernel_rfl)),
  f277 := Tryd.func68.trans (congrArg some (by kernel_rfl)),
  t0 := Tryd.underlying0,
  a0 := Tryd.isAgg0,
  z0 := Tryd.sizeOf0,
  v0 := Tryd.zeroValue0,
  t3 := Tryd.underlying3,
  a3 := Tryd.isAgg3,
  z3 := Tryd.sizeOf3,
  v3 := Tryd.zeroValue3,
  t4 := Tryd.underlying4,
  a4 := Tryd.isAgg4,
  z4 := Tryd.sizeOf4,
  v4 := Tryd.zeroValue4,
  t9 := Tryd.underlying9,
  a9 := Tryd.isAgg9,
  z9 := Tryd.sizeOf9,
  v9 := Tryd.zeroValue9,
  t20 := Tryd.underlying20,
  a20 := Tryd.isAgg20,
  z20 := Tryd.sizeOf20,
  v20 := Tryd.zeroValue20,
  t31 := Tryd.underlying56,
  a31 := Tryd.isAgg56,
  z31 := Tryd.sizeOf56,
  v31 := Tryd.zeroValue56,
  t37 := Tryd.underlying22,
  a37 := Tryd.isAgg22,
  z37 := Tryd.sizeOf22,
  v37 := Tryd.zeroValue22,
  t70 := Tryd.underlying79,
  a70 := Tryd.isAgg79,
  z70 := Tryd.sizeOf79,
  v70 := Tryd.zeroValue79,
  t72 := Tryd.underlying81,
  a72 := Tryd.isAgg81,
  z72 := Tryd.sizeOf81,
  v72 := Tryd.zeroValue81,
  t75 := Tryd.underlying84,
  a75 := Tryd.isAgg84,
  z75 := Tryd.sizeOf84,
  v75 := Tryd.zeroValue84,
  t76 := Tryd.underlying85,
  a76 := Tryd.isAgg85,
  z76 := Tryd.sizeOf85,
  v76 := Tryd.zeroValue85,
  t127 := Tryd.underlying94,
  a127 := Tryd.isAgg94,
  z127 := Tryd.sizeOf94,
  v127 := Tryd.zeroValue94,
  t164 := Tryd.underlying104,
  a164 := Tryd.isAgg104,
  z164 := Tryd.sizeOf104,
  v164 := Tryd.zeroValue104
}

theorem joinExtra : Builder.Extra Tryd.prog joinLay_ren where
  sizeBuilder := by kernel_rfl
  liesBuilder := by kernel_rfl
  t5 := Tryd.underlying5
  a5 := Tryd.isAgg5
  z5 := Tryd.sizeOf5
  v5 := Tryd.zeroValue5
  infoByte := by kernel_rfl
  cellsByte := by kernel_rfl
  sizeByte := by kernel_rfl
  neB5 := by decide
theorem join_c (bk c : Nat) (xs : List ByteArray) (sep : ByteArray) (w : World) (hcells : ∀ (j : Nat) x, xs[j]? = some x → w.cell? ⟨bk, j, none⟩ = some (.string x)) (hbk : bk < w.heap.size) (hN : xs.length ≤ 140737488355328) (hcap : xs.length ≤ c) (hlen : (Lib.join (xs.map (·.data.toList)) sep.data.toList).length ≤ 140737488355328) : Calls Tryd.prog 37 #[.slice (some ⟨bk, 0, none⟩) xs.length c, .string sep] w fun e w' => e = .returned (.string ⟨(Lib.join (xs.map (·.data.toList)) sep.data.toList).toArray⟩) ∧ Below w.heap.size w w' :=
  Any.strings_Join joinLay joinExtra bk 0 c xs sep w (fun j x h => by rw [Nat.zero_add]; exact hcells j x h) hbk hN hcap hlen
end Go.Proofs.YtapafambhidlhaaDoor
