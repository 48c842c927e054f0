/- Texts of lists: the program's side. -/
import Derived.Test.YthemojobalcopaaGreatDoorTX2
namespace Go.Proofs.YthemojobalcopaaGreatDoor
open Go.ChangeShapes Go.WideShapes Go.ChangeAt Go.RowKit
set_option linter.unusedVariables false
set_option linter.unusedSimpArgs false

/-- The table of the powers of ten that the library's text of a number reads. -/
def Tab (P : Program) (w : World) : Prop := Lib.TabIs P w "internal/strconv.uint64pow10" .u64 Lib.pow10Tab
theorem Tab.below {P : Program} {w w' : World} (h : Tab P w) (hb : Below w.heap.size w w') : Tab P w' := by
  unfold Tab Lib.TabIs World.var? at *
  cases hg : P.globalNamed "internal/strconv.uint64pow10" with
  | none =>
    rw [hg] at h
    exact h
  | some g =>
    rw [hg] at h
    simp only [Option.bind_some] at h ⊢
    have hlt : g < w.heap.size := by
      rcases Nat.lt_or_ge g w.heap.size with h1 | h1
      · exact h1
      · rw [Array.getElem?_eq_none h1] at h
        cases h
    rw [hb.block g hlt]
    exact h
def notVal (n : Int) : Bool := !inB n (-1000000000000) 1000000000000
def wTo (xs : List Int) : Nat → List ByteArray
  | 0 => []
  | k + 1 => wTo xs k ++ [⟨(Lib.itoa (nth xs k)).toArray⟩]
theorem wTo_len (xs : List Int) : ∀ k, (wTo xs k).length = k
  | 0 => rfl
  | k + 1 => by rw [wTo, List.length_append, wTo_len xs k]; rfl
theorem join_snoc (l : List (List UInt8)) (y sep : List UInt8) : Lib.join (l ++ [y]) sep = (if l = [] then [] else Lib.join l sep ++ sep) ++ y := by
  cases l with
  | nil => simp [Lib.join_one]
  | cons x r =>
    rw [List.cons_append, Lib.join_cons, Lib.join_cons, if_neg (by simp)]
    simp [Lib.joinTail, List.append_assoc]
theorem join_wTo (xs : List Int) : ∀ k, Lib.join ((wTo xs k).map (·.data.toList)) [44] = lstTo xs k
  | 0 => rfl
  | k + 1 => by
    rw [wTo, List.map_append, List.map_singleton, join_snoc, join_wTo xs k, lstTo]
    congr 1
    cases k with
    | zero => rfl
    | succ k =>
      have h1 : ¬ (wTo xs (k + 1)).map (·.data.toList) = [] := by
        intro h
        have := congrArg List.length h
        rw [List.length_map, wTo_len] at this
        simp at this
      have h2 : ¬ k + 1 = 0 := by omega
      rw [if_neg h1, if_neg h2]
theorem isValue_c (n : Int) (w : World) : Calls Tryz.prog 46 #[.int .i64 n] w fun e w' => e = .returned (.bool (inB n (-1000000000000) 1000000000000)) ∧ w = w' := by
  go_enter Tryz.func46, Tryz.ntmps46
  go_wp2_with
    (first
      | (go_at_call 24; go_call (within_c _ _ _ _); rintro e w' ⟨rfl, rfl⟩))
  go_ret
  simp
theorem listText1_c (n : Int) (w : World) : Calls Tryz.prog 45 #[.int .i64 n] w fun e w' => e = .returned (.bool (notVal n)) ∧ w = w' := by
  go_enter Tryz.func45, Tryz.ntmps45
  go_wp2_with
    (first
      | (go_at_call 46; go_call (isValue_c _ _); rintro e w' ⟨rfl, rfl⟩))
  all_goals (go_ret; simp [notVal])
theorem decimal_c (n : Int) (hI : I64 n) (w : World) (ht : Tab Tryz.prog w) : Calls Tryz.prog 47 #[.int .i64 n] w fun e w' => e = .returned (.string ⟨(Lib.itoa n).toArray⟩) ∧ Below w.heap.size w w' := by
  go_enter Tryz.func47, Tryz.ntmps47
  go_wp2_with (go_at_call 52; (refine (formatInt_c n hI _ ht).mono ?_); rintro e w' ⟨rfl, hb⟩)
  go_returns
  exact ⟨by simp, hb⟩
theorem indexFuncLt_c (A : Option Addr) (c : Nat) (xs : List Int) (hn : xs.length ≤ 1048576) (w : World) (hr : RowI w A xs) : Calls Tryz.prog 49 #[.slice A xs.length c, .func (.func 45) #[] #[]] w (IdxPost (xs.any notVal) w) := by
  go_enter Tryz.func49, Tryz.ntmps49
  go_wp2
  go_loop [8] (fun v => ∃ k : Nat, k ≤ xs.length ∧ v = .int .i64 k ∧ Hid (∀ j, j < k → notVal (nth xs j) = false)) (fun v => xs.length - (intOf v).toNat)
  case atStart => exact ⟨0, by omega, rfl, Lib.hid (fun j hj => by omega)⟩
  case round =>
    obtain ⟨k, hk, rfl, HK⟩ := hrel
    by_cases hlt : k < xs.length
    · obtain ⟨b, off, rfl, hb, hc⟩ := hr.at_ hlt
      cases hp : notVal (nth xs k)
      · have HN := Lib.hid (show ∀ j, j < k + 1 → notVal (nth xs j) = false from fun j hj => by
          rcases Nat.lt_or_ge j k with h1 | h1
          · exact HK.out j h1
          · obtain rfl : j = k := by omega
            exact hp)
        go_wp2_with (go_at_call 45; go_call (listText1_c _ _); rintro e w' ⟨rfl, rfl⟩)
        go_round
        case rel => exact ⟨k + 1, by omega, by go_num, HN⟩
        case measure => simp [intOf]; omega
      · have HA := Lib.hid (any_of hlt hp)
        go_wp2_with (go_at_call 45; go_call (listText1_c _ _); rintro e w' ⟨rfl, rfl⟩)
        go_ret
        exact ⟨k, rfl, by rw [HA.out]; simp, rfl⟩
    · obtain rfl : k = xs.length := by omega
      have HA := Lib.hid (any_none HK.out)
      go_wp2
      go_ret
      exact ⟨-1, rfl, by rw [HA.out]; simp, rfl⟩
theorem containsFuncLt_c (A : Option Addr) (c : Nat) (xs : List Int) (hn : xs.length ≤ 1048576) (w : World) (hr : RowI w A xs) : Calls Tryz.prog 40 #[.slice A xs.length c, .func (.func 45) #[] #[]] w fun e w' => e = .returned (.bool (xs.any notVal)) ∧ w = w' := by
  have HC := Lib.hid (indexFuncLt_c A c xs hn w hr)
  generalize xs.any notVal = b at *
  go_enter Tryz.func40, Tryz.ntmps40
  go_wp2_with (go_at_call 49; (refine HC.out.mono ?_); rintro e w' ⟨r, rfl, hr, rfl⟩)
  go_ret
  exact ⟨by simp [hr], rfl⟩
set_option maxHeartbeats 2000000 in
theorem listText_c (A : Option Addr) (n c : Nat) (xs : List Int) (hln : xs.length = n) (hn : xs.length ≤ 64) (h0 : 0 < xs.length) (hv : ∀ k, k < xs.length → -1000000000000 ≤ nth xs k ∧ nth xs k ≤ 1000000000000) (w : World) (hr : RowI w A xs) (ht : Tab Tryz.prog w) : Calls Tryz.prog 37 #[.slice A n c] w fun e w' => e = .returned (.string ⟨(lstTo xs xs.length).toArray⟩) ∧ Below w.heap.size w w' := by
  subst hln
  have hI : ∀ k, k < xs.length → I64 (nth xs k) := fun k hk => by
    have := hv k hk
    unfold I64
    omega
  have HLL := Lib.hid (lstTo_len hI)
  have hany : xs.any notVal = false := any_none fun j hj => by
    have := hv j hj
    simp only [notVal, inB]
    simp
    omega
  have HC := Lib.hid (containsFuncLt_c A c xs (by omega) w hr)
  rw [hany] at HC
  have i0 : ¬ (xs.length : Int) = 0 := by omega
  have i0' : ((xs.length : Int) == 0) = false := by rw [beq_eq_false_iff_ne]; omega
  have i1 : ¬ (64 : Int) < xs.length := by omega
  go_enter Tryz.func37, Tryz.ntmps37
  go_wp2_with (go_at_call 40; (refine HC.out.mono ?_); rintro e w' ⟨rfl, rfl⟩)
  go_loopw [3, 18] (fun v i wr => ∃ k : Nat, k ≤ xs.length ∧ i = .int .i64 k ∧ Hid (wr.ownsRow w.heap.size 9 1 v k ((wTo xs k).map Value.string)) ∧ Below w.heap.size w wr) (fun _ i _ => xs.length - (intOf i).toNat)
  case atStart => exact ⟨0, by omega, rfl, Lib.hid (World.ownsRow_nil w _ _ _), Below.refl _ _⟩
  case round =>
    obtain ⟨k, hk, rfl, HO, hBr⟩ := hrel
    have hsr := hBr.size
    by_cases hlt : k < xs.length
    · obtain ⟨b, off, rfl, hbb, c1⟩ := (hr.below hBr).at_ hlt
      have i1 : (k : Int) < xs.length := by omega
      have hIk := hI k hlt
      have htk := ht.below hBr
      have HN := Lib.hid (show (wTo xs (k + 1)).map Value.string = (wTo xs k).map Value.string ++ [.string ⟨(Lib.itoa (nth xs k)).toArray⟩] by rw [wTo, List.map_append]; rfl)
      go_wp2_with (first
        | (at_builtin; refine wpList_pushV rfl _ _ 65 rfl Tryz.underlying65 string_info rfl (by decide) _ rfl HO1.out rfl rfl rfl (by omega) (by omega) ?_; intro v' w3 hO' hB'; have HO' := Lib.hid hO'; clear hO')
        | (go_at_call 47; (refine (decimal_c _ hIk _ htk).mono ?_); rintro e wc ⟨rfl, hc⟩; have HO1 := Lib.hid (own_below HO.out hc); have hsc := hc.size))
      go_roundw
      case rel => exact ⟨k + 1, by omega, by go_num, Lib.hid (by rw [HN.out]; exact HO'.out), (hBr.trans (hc.mono hsr)).trans hB'⟩
      case measure => simp [intOf] <;> omega
    · obtain rfl : k = xs.length := by omega
      obtain ⟨g, c', rfl, hg, hgl, hgc, hcell⟩ := own_shape_pos HO.out h0
      have hj := join_c g c' (wTo xs xs.length) ⟨#[44]⟩ wr (fun j x hx => by
        have hjl : j < xs.length := by
          have := (List.getElem?_eq_some_iff.1 hx).1
          rwa [wTo_len] at this
        rw [hcell j hjl, List.getElem?_map, hx]
        rfl) hgl (by rw [wTo_len]; omega) (by rw [wTo_len]; exact hgc) (by
        have e := join_wTo xs xs.length
        have := HLL.out xs.length (Nat.le_refl _)
        show (Lib.join ((wTo xs xs.length).map (·.data.toList)) [44]).length ≤ _
        rw [e]
        omega)
      rw [wTo_len] at hj
      have e : Lib.join ((wTo xs xs.length).map (·.data.toList)) ((⟨#[44]⟩ : ByteArray).data.toList) = lstTo xs xs.length := join_wTo xs xs.length
      rw [e] at hj
      have HJ := Lib.hid hj
      clear hj e hcell HO
      go_wp2_with (go_at_call 48; (refine HJ.out.mono ?_); rintro e w' ⟨rfl, hb'⟩)
      go_returns
      exact ⟨by simp, hBr.trans (hb'.mono hsr)⟩
end Go.Proofs.YthemojobalcopaaGreatDoor
