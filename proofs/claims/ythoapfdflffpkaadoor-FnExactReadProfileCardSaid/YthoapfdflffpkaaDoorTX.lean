/- Texts of numbers and of lists: the reference's side. -/
import Derived.Test.YthoapfdflffpkaaDoorOV
import Derived.Lib.ItoaMem
import Derived.Lib.Join
namespace Go.Proofs.YthoapfdflffpkaaDoor
open Go.ChangeShapes Go.WideShapes Go.ChangeAt Go.RowKit
set_option linter.unusedVariables false
set_option linter.unusedSimpArgs false

def encB (b : UInt8) : Value := .int .u8 (b.toNat : Int)
theorem encB_dig {r : Nat} (hr : r < 10) : encB (UInt8.ofNat (48 + r)) = .int .u8 (48 + (r : Int)) := by
  unfold encB
  rw [UInt8.toNat_ofNat_of_lt' (by show 48 + r < 256; omega)]
  push_cast
  rfl
theorem decDigits_len : ∀ k u, u < 10 ^ k → (Lib.decDigits u).length ≤ k + 1
  | 0, u, h => by
    rw [Lib.decDigits, dif_pos (by simp at h; omega)]
    simp
  | k + 1, u, h => by
    rw [Lib.decDigits]
    split
    · simp
    · have := decDigits_len k (u / 10) (by rw [Nat.pow_succ] at h; omega)
      rw [List.length_append]
      simp
      omega
theorem decDigits_step {u : Nat} (h : u ≠ 0) (ds : List UInt8) : (if u = 0 then ds.reverse else Lib.decDigits u ++ ds.reverse) = (if u / 10 = 0 then (ds ++ [UInt8.ofNat (48 + u % 10)]).reverse else Lib.decDigits (u / 10) ++ (ds ++ [UInt8.ofNat (48 + u % 10)]).reverse) := by
  rw [if_neg h, Lib.decDigits]
  by_cases h1 : u < 10
  · rw [dif_pos h1, if_pos (by omega), Nat.mod_eq_of_lt h1]
    simp
  · rw [dif_neg h1, if_neg (by omega)]
    simp
theorem map_snoc (ds : List UInt8) (b : UInt8) : ds.map encB ++ [encB b] = (ds ++ [b]).map encB := by simp
theorem drop_rev (es : List UInt8) (j : Nat) (h : j < es.length) : (es.drop (j + 1)).reverse ++ [es[j]] = (es.drop j).reverse := by
  rw [List.drop_eq_getElem_cons h, List.reverse_cons]
def DecN (e : TypeId) (U : Nat) (w : World) (v m : Value) (wr : World) : Prop := ∃ (u : Nat) (ds : List UInt8), u ≤ U ∧ m = .int .i64 (-(u : Int)) ∧ Hid (Lib.decDigits U = if u = 0 then ds.reverse else Lib.decDigits u ++ ds.reverse) ∧ Hid (wr.ownsRow w.heap.size e 1 v ds.length (ds.map encB)) ∧ Below w.heap.size w wr
def DecP (e : TypeId) (U : Nat) (w : World) (v m : Value) (wr : World) : Prop := ∃ (u : Nat) (ds : List UInt8), u ≤ U ∧ m = .int .i64 (u : Int) ∧ Hid (Lib.decDigits U = if u = 0 then ds.reverse else Lib.decDigits u ++ ds.reverse) ∧ Hid (wr.ownsRow w.heap.size e 1 v ds.length (ds.map encB)) ∧ Below w.heap.size w wr
def RevR (e : TypeId) (es : List UInt8) (W : World) (v i : Value) (wr : World) : Prop := ∃ j : Nat, j ≤ es.length ∧ (j = 0 ∧ i = .int .i64 (-1) ∨ ∃ k, j = k + 1 ∧ i = .int .i64 (k : Int)) ∧ Hid (wr.ownsRow W.heap.size e 1 v (es.length - j) ((es.drop j).reverse.map encB)) ∧ Below W.heap.size W wr
theorem own_shape_pos {e : TypeId} {w : World} {B n : Nat} {v : Value} {xs : List Value} (h : w.ownsRow B e 1 v n xs) (hn : 0 < n) : ∃ g c, v = .slice (some ⟨g, 0, none⟩) n c ∧ B ≤ g ∧ g < w.heap.size ∧ n ≤ c ∧ ∀ i, i < n → w.cell? ⟨g, i, none⟩ = xs[i]? := by
  rcases own_shape h with ⟨_, h0⟩ | h
  · omega
  · exact h
set_option maxRecDepth 100000 in
set_option maxHeartbeats 2000000 in
theorem l01Dec_c (n : Int) (hI : I64 n) (w : World) : Calls Tryd.prog 78 #[.int .i64 n] w fun e w' => e = .returned (.string ⟨(Lib.itoa n).toArray⟩) ∧ Below w.heap.size w w' := by
  obtain ⟨n0, n1⟩ := hI
  rcases Int.lt_trichotomy n 0 with hn | hn | hn
  · have hU : (n.natAbs : Int) = -n := by omega
    have HD0 := Lib.hid (show Lib.itoa n = 45 :: Lib.decDigits n.natAbs by unfold Lib.itoa; rw [if_pos (by omega)])
    have HLN := Lib.hid (decDigits_len 19 n.natAbs (by omega))
    have hu0 : n.natAbs ≠ 0 := by omega
    have hn0 : (n == 0) = false := by simp; omega
    generalize n.natAbs = U at *
    go_enter Tryd.func78, Tryd.ntmps78
    go_wp2
    go_loopw [3, 4] (fun v m wr => DecN 5 U w v m wr) (fun _ m _ => (intOf m).natAbs)
    case atStart => exact ⟨U, [], by omega, by rw [hU]; simp, Lib.hid (by rw [if_neg hu0]; simp), Lib.hid (World.ownsRow_lit w #[] 0 (Nat.le_refl _) (by simp [maxLen]) rfl), (Below.refl _ _).alloc (Nat.le_refl _) _⟩
    case round =>
      obtain ⟨u, ds, hu, rfl, HD, HO, hBr⟩ := hrel
      have hsr := hBr.size
      by_cases hz : u = 0
      · subst hz
        have HDR := Lib.hid (show Lib.decDigits U = ds.reverse by rw [HD.out, if_pos rfl])
        have hdl : ds.length ≤ 20 := by
          have := congrArg List.length HDR.out
          rw [List.length_reverse] at this
          have := HLN.out
          omega
        go_wp2_with (at_builtin; refine wpList_pushV rfl _ _ 50 rfl Tryd.underlying50 uint8_info rfl (by decide) (encB 45) rfl HO.out rfl rfl rfl (by omega) (by first | omega | (simp; omega)) ?_; intro v' w3 hO' hB'; have HO' := Lib.hid hO'; clear hO'; have z3 := hB'.size; have hes := HO'.out; rw [map_snoc, show ds.length + 1 = (ds ++ [45]).length by simp] at hes; obtain ⟨g3, c3, rfl, hg30, hg3, hc3, hcell0⟩ := own_shape_pos hes (by simp))
        have HE := Lib.hid (show (ds ++ [45]).reverse = Lib.itoa n by rw [HD0.out, HDR.out]; simp)
        have hcell : ∀ i (h : i < (ds ++ [45]).length), w3.cell? ⟨g3, i, none⟩ = some (encB (ds ++ [45])[i]) := fun i h => by
          rw [hcell0 i h, List.getElem?_map, List.getElem?_eq_getElem h]
          rfl
        have el9 : (ds ++ [45]).length ≤ 21 := by simp; omega
        have HEL : Hid ((ds ++ [45]).length = ds.length + 1) := Lib.hid (by simp)
        have hB1 : Below w.heap.size w w3 := hBr.trans hB'
        have el1 : 0 < (ds ++ [45]).length := by simp
        clear hes hcell0 HO' HO
        generalize ds ++ [45] = es at *
        go_loopw [6, 7] (fun v i wr => RevR 5 es w3 v i wr) (fun _ i _ => (intOf i + 1).toNat)
        case atStart => exact ⟨es.length, Nat.le_refl _, .inr ⟨es.length - 1, by omega, by first | rfl | (have := HEL.out; congr 1; omega)⟩, Lib.hid (by rw [Nat.sub_self, List.drop_length]; exact World.ownsRow_lit w3 #[] 0 (Nat.le_refl _) (by simp [maxLen]) rfl), (Below.refl _ _).alloc (Nat.le_refl _) _⟩
        case round =>
          obtain ⟨j, hj, hji, HO, hBr⟩ := hrel
          have hsr := hBr.size
          rcases hji with ⟨rfl, rfl⟩ | ⟨k, rfl, rfl⟩
          · have hO0 := HO.out
            rw [Nat.sub_zero, List.drop_zero] at hO0
            obtain ⟨g4, c4, rfl, hg4, hl4, hc4, hcell4⟩ := own_shape_pos hO0 el1
            clear hO0
            have hcv := run_convert_bytes_back (P := Tryd.prog) wr 50 9 5 ⟨g4, 0, none⟩ c4 es.reverse Tryd.underlying50 Tryd.underlying5 Tryd.underlying9 (fun i hi => by
              have h1 := hcell4 i (by rw [List.length_reverse] at hi; omega)
              have h2 : (⟨g4, 0, none⟩ : Addr).add i = ⟨g4, i, none⟩ := by simp [Addr.add]; try omega
              rw [h2, h1, List.getElem?_map, List.getElem?_eq_getElem hi]
              rfl)
            rw [List.length_reverse] at hcv
            go_wp2
            go_returns
            exact ⟨by rw [HE.out]; simp, hB1.trans (hBr.mono (by omega))⟩
          · have hk : k < es.length := by omega
            have c1 : wr.cell? ⟨g3, k, none⟩ = some (.int .u8 ((es[k].toNat : Nat) : Int)) := (hBr.cell (p := ⟨g3, k, none⟩) hg3).trans (hcell k hk)
            have HR := Lib.hid (drop_rev es k hk)
            have i1 : (k : Int) < es.length := by omega
            have i2 : (k : Int) < (ds.length : Int) + 1 := by have := HEL.out; omega
            have hl3 : g3 < wr.heap.size := by omega
            have HB := Lib.hid (show encB es[k] = .int .u8 (es[k].toNat : Int) from rfl)
            generalize es[k] = bb at *
            go_wp2_with (at_builtin; refine wpList_pushV rfl _ _ 50 rfl Tryd.underlying50 uint8_info rfl (by decide) _ rfl HO.out rfl rfl rfl (by omega) (by first | omega | (simp; omega)) ?_; intro v' w3 hO' hB'; have HO' := Lib.hid hO'; clear hO'; have z3 := hB'.size)
            go_roundw
            case rel =>
              refine ⟨k, by omega, ?_, Lib.hid (by rw [← HR.out, List.map_append, show es.length - k = es.length - (k + 1) + 1 by omega]; exact HO'.out), hBr.trans hB'⟩
              rcases k with _ | k
              · exact .inl ⟨rfl, by first | rfl | simp⟩
              · exact .inr ⟨k, rfl, by first | go_num | (congr 1; omega)⟩
            case measure => simp [intOf] <;> omega
      · have hdl : ds.length ≤ 20 := by
          have := congrArg List.length HD.out
          rw [if_neg hz, List.length_append, List.length_reverse] at this
          have := HLN.out
          omega
        have HN := Lib.hid (HD.out.trans (decDigits_step hz ds))
        have e1 : (-(u : Int)).tmod 10 = -((u % 10 : Nat) : Int) := by rw [Int.neg_tmod, Int.tmod_eq_emod_of_nonneg (by omega)]; omega
        have e2 : (-(u : Int)).tdiv 10 = -((u / 10 : Nat) : Int) := by rw [Int.neg_tdiv, Int.tdiv_eq_ediv_of_nonneg (by omega)]; omega
        have e3 : (u : Int) % 10 = ((u % 10 : Nat) : Int) := by omega
        have e4 : (u : Int) / 10 = ((u / 10 : Nat) : Int) := by omega
        have hr : u % 10 < 10 := by omega
        have HB := Lib.hid (encB_dig hr)
        have hq : u / 10 ≤ U := by omega
        have hq2 : u / 10 < u := by omega
        have hnz : ¬ (-(u : Int)) = 0 := by omega
        generalize u % 10 = r at *
        generalize hqd : u / 10 = q at *
        rcases Nat.eq_zero_or_pos r with h0 | h0
        · subst h0
          go_wp2_with (at_builtin; refine wpList_pushV rfl _ _ 50 rfl Tryd.underlying50 uint8_info rfl (by decide) _ rfl HO.out rfl rfl rfl (by omega) (by first | omega | (simp; omega)) ?_; intro v' w3 hO' hB'; have HO' := Lib.hid hO'; clear hO'; have z3 := hB'.size)
          go_roundw
          case rel => exact ⟨q, ds ++ [UInt8.ofNat (48 + 0)], hq, by first | rfl | go_num | (congr 1; omega), HN, Lib.hid (by have h := HO'.out; rw [List.length_append]; rw [← map_snoc, HB.out]; first | exact h | simpa using h), hBr.trans hB'⟩
          case measure => simp [intOf] <;> omega
        · have h0' : -(r : Int) < 0 := by omega
          go_wp2_with (at_builtin; refine wpList_pushV rfl _ _ 50 rfl Tryd.underlying50 uint8_info rfl (by decide) _ rfl HO.out rfl rfl rfl (by omega) (by first | omega | (simp; omega)) ?_; intro v' w3 hO' hB'; have HO' := Lib.hid hO'; clear hO'; have z3 := hB'.size)
          go_roundw
          case rel => exact ⟨q, ds ++ [UInt8.ofNat (48 + r)], hq, by first | rfl | go_num | (congr 1; omega), HN, Lib.hid (by have h := HO'.out; rw [List.length_append]; rw [← map_snoc, HB.out]; first | exact h | simpa using h), hBr.trans hB'⟩
          case measure => simp [intOf] <;> omega
  · subst hn
    have HZ := Lib.hid (show Lib.itoa 0 = [48] by unfold Lib.itoa; rw [if_neg (by omega)]; exact Lib.decDigits_one (by omega))
    go_enter Tryd.func78, Tryd.ntmps78
    go_wp2
    go_returns
    exact ⟨by rw [HZ.out]; rfl, Below.refl _ _⟩
  · have hU : (n.natAbs : Int) = n := by omega
    have HD0 := Lib.hid (show Lib.itoa n = Lib.decDigits n.natAbs by unfold Lib.itoa; rw [if_neg (by omega), show n.toNat = n.natAbs by omega])
    have HLN := Lib.hid (decDigits_len 19 n.natAbs (by omega))
    have hu0 : n.natAbs ≠ 0 := by omega
    have hn0 : (n == 0) = false := by simp; omega
    generalize n.natAbs = U at *
    go_enter Tryd.func78, Tryd.ntmps78
    go_wp2
    go_loopw [3, 4] (fun v m wr => DecP 5 U w v m wr) (fun _ m _ => (intOf m).natAbs)
    case atStart => exact ⟨U, [], by omega, by rw [hU], Lib.hid (by rw [if_neg hu0]; simp), Lib.hid (World.ownsRow_lit w #[] 0 (Nat.le_refl _) (by simp [maxLen]) rfl), (Below.refl _ _).alloc (Nat.le_refl _) _⟩
    case round =>
      obtain ⟨u, ds, hu, rfl, HD, HO, hBr⟩ := hrel
      have hsr := hBr.size
      by_cases hz : u = 0
      · subst hz
        have HDR := Lib.hid (show Lib.decDigits U = ds.reverse by rw [HD.out, if_pos rfl])
        have hdl : ds.length ≤ 20 := by
          have := congrArg List.length HDR.out
          rw [List.length_reverse] at this
          have := HLN.out
          omega
        have hd0 : 0 < ds.length := by
          have := congrArg List.length HDR.out
          rw [List.length_reverse] at this
          have h1 : 0 < (Lib.decDigits U).length := by
            rw [Lib.decDigits]
            split <;> simp
          omega
        obtain ⟨g3, c3, rfl, hg30, hg3, hc3, hcell0⟩ := own_shape_pos HO.out hd0
        have HE := Lib.hid (show ds.reverse = Lib.itoa n by rw [HD0.out, HDR.out])
        have hcell : ∀ i (h : i < ds.length), wr.cell? ⟨g3, i, none⟩ = some (encB ds[i]) := fun i h => by
          rw [hcell0 i h, List.getElem?_map, List.getElem?_eq_getElem h]
          rfl
        have hB1 := hBr
        have el9 : ds.length ≤ 21 := by omega
        have HEL : Hid (ds.length = ds.length) := Lib.hid rfl
        have el1 := hd0
        clear hcell0 HO HD HDR hBr
        obtain ⟨W1, rfl⟩ : ∃ W : World, W = wr := ⟨_, rfl⟩
        have n2 : ¬ n < 0 := by omega
        go_wp2
        generalize ds = es at *
        go_loopw [6, 7] (fun v i wr => RevR 5 es W1 v i wr) (fun _ i _ => (intOf i + 1).toNat)
        case atStart => exact ⟨es.length, Nat.le_refl _, .inr ⟨es.length - 1, by omega, by first | rfl | (have := HEL.out; congr 1; omega)⟩, Lib.hid (by rw [Nat.sub_self, List.drop_length]; exact World.ownsRow_lit W1 #[] 0 (Nat.le_refl _) (by simp [maxLen]) rfl), (Below.refl _ _).alloc (Nat.le_refl _) _⟩
        case round =>
          obtain ⟨j, hj, hji, HO, hBr⟩ := hrel
          have hsr := hBr.size
          rcases hji with ⟨rfl, rfl⟩ | ⟨k, rfl, rfl⟩
          · have hO0 := HO.out
            rw [Nat.sub_zero, List.drop_zero] at hO0
            obtain ⟨g4, c4, rfl, hg4, hl4, hc4, hcell4⟩ := own_shape_pos hO0 el1
            clear hO0
            have hcv := run_convert_bytes_back (P := Tryd.prog) wr 50 9 5 ⟨g4, 0, none⟩ c4 es.reverse Tryd.underlying50 Tryd.underlying5 Tryd.underlying9 (fun i hi => by
              have h1 := hcell4 i (by rw [List.length_reverse] at hi; omega)
              have h2 : (⟨g4, 0, none⟩ : Addr).add i = ⟨g4, i, none⟩ := by simp [Addr.add]; try omega
              rw [h2, h1, List.getElem?_map, List.getElem?_eq_getElem hi]
              rfl)
            rw [List.length_reverse] at hcv
            go_wp2
            go_returns
            exact ⟨by rw [HE.out]; simp, hB1.trans (hBr.mono (by omega))⟩
          · have hk : k < es.length := by omega
            have c1 : wr.cell? ⟨g3, k, none⟩ = some (.int .u8 ((es[k].toNat : Nat) : Int)) := (hBr.cell (p := ⟨g3, k, none⟩) hg3).trans (hcell k hk)
            have HR := Lib.hid (drop_rev es k hk)
            have i1 : (k : Int) < es.length := by omega
            skip
            have hl3 : g3 < wr.heap.size := by omega
            have HB := Lib.hid (show encB es[k] = .int .u8 (es[k].toNat : Int) from rfl)
            generalize es[k] = bb at *
            go_wp2_with (at_builtin; refine wpList_pushV rfl _ _ 50 rfl Tryd.underlying50 uint8_info rfl (by decide) _ rfl HO.out rfl rfl rfl (by omega) (by first | omega | (simp; omega)) ?_; intro v' w3 hO' hB'; have HO' := Lib.hid hO'; clear hO'; have z3 := hB'.size)
            go_roundw
            case rel =>
              refine ⟨k, by omega, ?_, Lib.hid (by rw [← HR.out, List.map_append, show es.length - k = es.length - (k + 1) + 1 by omega]; exact HO'.out), hBr.trans hB'⟩
              rcases k with _ | k
              · exact .inl ⟨rfl, by first | rfl | simp⟩
              · exact .inr ⟨k, rfl, by first | go_num | (congr 1; omega)⟩
            case measure => simp [intOf] <;> omega
      · have hdl : ds.length ≤ 20 := by
          have := congrArg List.length HD.out
          rw [if_neg hz, List.length_append, List.length_reverse] at this
          have := HLN.out
          omega
        have HN := Lib.hid (HD.out.trans (decDigits_step hz ds))
        have e1 : ((u : Int)).tmod 10 = ((u % 10 : Nat) : Int) := by rw [Int.tmod_eq_emod_of_nonneg (by omega)]; omega
        have e2 : ((u : Int)).tdiv 10 = ((u / 10 : Nat) : Int) := by rw [Int.tdiv_eq_ediv_of_nonneg (by omega)]; omega
        have e3 : (u : Int) % 10 = ((u % 10 : Nat) : Int) := by omega
        have e4 : (u : Int) / 10 = ((u / 10 : Nat) : Int) := by omega
        have hr : u % 10 < 10 := by omega
        have HB := Lib.hid (encB_dig hr)
        have hq : u / 10 ≤ U := by omega
        have hq2 : u / 10 < u := by omega
        have hnz : ¬ ((u : Int)) = 0 := by omega
        generalize u % 10 = r at *
        generalize hqd : u / 10 = q at *
        have h0' : ¬ (r : Int) < 0 := by omega
        go_wp2_with (at_builtin; refine wpList_pushV rfl _ _ 50 rfl Tryd.underlying50 uint8_info rfl (by decide) _ rfl HO.out rfl rfl rfl (by omega) (by first | omega | (simp; omega)) ?_; intro v' w3 hO' hB'; have HO' := Lib.hid hO'; clear hO'; have z3 := hB'.size)
        go_roundw
        case rel => exact ⟨q, ds ++ [UInt8.ofNat (48 + r)], hq, by first | rfl | go_num | (congr 1; omega), HN, Lib.hid (by have h := HO'.out; rw [List.length_append]; rw [← map_snoc, HB.out]; first | exact h | simpa using h), hBr.trans hB'⟩
        case measure => simp [intOf] <;> omega
end Go.Proofs.YthoapfdflffpkaaDoor
