/- Draws of lists of limits and of hours. -/
import Derived.Test.YtapafambhidlhaaDoorD2
import Derived.Test.YtapafambhidlhaaDoorOV
namespace Go.Proofs.YtapafambhidlhaaDoor
open Go.ChangeShapes Go.WideShapes Go.ChangeAt Go.RowKit
set_option linter.unusedVariables false
set_option linter.unusedSimpArgs false

theorem Src.belowB {p k B : Nat} {w w' : World} (h : Src p k w) (hb : Below B w w') (hB : p < B) : Src p k w' := by
  obtain ⟨h0, A, n, c, a, s, h1, h2, h3, h4, h5, c0, c1, c2, hf, hr, hne⟩ := h
  refine ⟨Nat.lt_of_lt_of_le h0 hb.size, A, n, c, a, s, h1, h2, h3, h4, h5, (hb.cell (p := ⟨p, 0, none⟩) hB).trans c0, (hb.cell (p := ⟨p, 1, none⟩) hB).trans c1, (hb.cell (p := ⟨p, 2, none⟩) hB).trans c2, fun j => (hb.frozen (p := ⟨p, j, none⟩) hB).trans (hf j), fun hn => ?_, hne⟩
  obtain ⟨g, off, e, hl, hc⟩ := hr hn
  have hg := hne hn g off e
  exact ⟨g, off, e, Nat.lt_of_lt_of_le hl hb.size, fun i hi => by
    obtain ⟨y, y0, y1, hy⟩ := hc i hi
    exact ⟨y, y0, y1, (hb.cell (p := ⟨g, off + i, none⟩) (show g < B by omega)).trans hy⟩⟩
theorem grown_below {w w0 w' : World} {k : Option Nat} (h : w.grownBy w0 k) (hb : Below w.heap.size w0 w') : w.grownBy w' k :=
  ⟨hb.os.trans h.os, hb.tape.trans h.tape, hb.output.trans h.output, Nat.le_trans h.size hb.size, fun j hj hne => (hb.block j hj).trans (h.block j hj hne)⟩
/-- A list of rows of three numbers that the call owns. -/
def OwnT (e : TypeId) (w : World) (B : Nat) (v : Value) (n : Nat) (z : List Int) : Prop := z.length = n * 3 ∧ w.ownsRow B e 3 v n (z.map (Value.int .i64))
theorem OwnT.kept {e : TypeId} {w w' : World} {B p n : Nat} {v : Value} {z : List Int} (h : OwnT e w B v n z) (hg : w.grownBy w' (some p)) (hb : p < B) : OwnT e w' B v n z := by
  refine ⟨h.1, World.ownsRow.kept h.2 hg ?_⟩
  rcases hv : v.ownBlock with _ | k
  · exact .inl rfl
  · refine .inr fun q => ?_
    injection q with q
    have := (World.ownsRow.lt h.2 k hv).1
    omega
theorem OwnT.alloc {e : TypeId} {w : World} {B n : Nat} {v : Value} {z : List Int} (h : OwnT e w B v n z) (o : Obj) : OwnT e (w.alloc o) B v n z := ⟨h.1, World.ownsRow.alloc h.2 o⟩
theorem OwnT.lit (e : TypeId) (w : World) (B : Nat) (hb : B ≤ w.heap.size) : OwnT e (w.alloc (.cells #[] e)) B (.slice (some ⟨w.heap.size, 0, none⟩) 0 0) 0 [] :=
  ⟨rfl, World.ownsRow_lit w #[] 0 hb (by simp [maxLen]) rfl⟩
theorem OwnT.row {e : TypeId} {w : World} {B n : Nat} {v : Value} {z : List Int} (h : OwnT e w B v n z) : ∃ A c, v = .slice A n c ∧ n ≤ c ∧ RowI w A z ∧ ∀ g o, A = some ⟨g, o, none⟩ → B ≤ g := by
  obtain ⟨hl, h0⟩ := h
  rcases h0.2 with ⟨rfl, hn⟩ | ⟨g, cap, cur, rfl, hb, hg, hcap, _⟩
  · exact ⟨none, 0, by rw [hn], by omega, fun h => by omega, fun _ _ e => by cases e⟩
  · refine ⟨some ⟨g, 0, none⟩, cap, rfl, hcap, fun _ => ⟨g, 0, rfl, (Array.getElem?_eq_some_iff.1 hg).1, fun i hi => ?_⟩, fun g' o e => by injection e with e; injection e with e _; omega⟩
    rw [Nat.zero_add, World.ownsRow.cellAt h0 i (by omega), List.getElem?_map, nth_eq hi]
    rfl
theorem new_cells3 {w : World} {a b c : Value} {t : TypeId} : ∀ (j : Nat) (u : Value), [a, b, c][j]? = some u → (w.alloc (.cells #[a, b, c] t)).cell? ((⟨w.heap.size, 0, none⟩ : Addr).add j) = some u := by
  intro j u hj
  match j, hj with
  | 0, hj => simp at hj; subst hj; simp [Addr.add]
  | 1, hj => simp at hj; subst hj; simp [Addr.add]
  | 2, hj => simp at hj; subst hj; simp [Addr.add]
theorem wpList_push3 {P : Program} {w : World} {ops : Array Oper} {rest : List Oper} {o : Oper} {a : Act} {Q : Exit → Act → World → Prop} (hgd : o.guard = none) (s x : Operand) (t : TypeId)
    (ho : o.op = .call { callee := .builtin .append, args := #[s, x], argTypes := #[t, t] }) {e : TypeId} (ht : P.underlying t = some (.slice e)) (hinfo : (P.info? e).map (fun i => (i.zero, i.size, i.bytes)) = some (some (.agg #[.int .i64 0, .int .i64 0, .int .i64 0]), 3, 24))
    {w0 : World} {B n : Nat} {v : Value} {z : List Int} (y0 y1 y2 : Int) {t' : TypeId} (hs : a.eval s = v) (hown : OwnT e w0 B v n z) (hw : w = w0.alloc (.cells #[.int .i64 y0, .int .i64 y1, .int .i64 y2] t')) {g : Nat} (hx : a.eval x = .slice (some ⟨g, 0, none⟩) 1 1) (hgw : g = w0.heap.size) (hlen : n ≤ 1048576) (hB : B ≤ w0.heap.size)
    (h : ∀ v' w', OwnT e w' B v' (n + 1) (z ++ [y0, y1, y2]) → Below B w0 w' → wpList P ops Q rest (a.put o.dst v') w') : wpList P ops Q (o :: rest) a w := by
  obtain ⟨i0, hi, hz0, hz1, hz2⟩ := info_parts hinfo
  subst hw
  subst hgw
  refine wpList_append_own _ hgd s x t ho B e i0 _ 3 24 ht hi hz0 hz1 hz2 rfl (by decide) v n _ hs (World.ownsRow.alloc hown.2 _) ⟨w0.heap.size, 0, none⟩ 1 1 [.int .i64 y0, .int .i64 y1, .int .i64 y2] hx rfl new_cells3 ?_ ?_ ?_ ?_ ?_
  · intro u hu
    simp at hu
    rcases hu with rfl | rfl | rfl <;> rfl
  · unfold maxLen
    omega
  · omega
  · simp
    omega
  · intro v' w' ho' hg _
    refine h v' w' ⟨?_, ?_⟩ ((((Below.refl _ _).alloc hB _).grown hg (by simp; omega) fun k hk => (World.ownsRow.lt hown.2 k hk).1))
    · rw [List.length_append, hown.1]
      simp
      omega
    · rw [List.map_append]
      exact ho'
theorem hour_info : (Tryd.prog.info? 25).map (fun i => (i.zero, i.size, i.bytes)) = some (some (.agg #[.int .i64 0, .int .i64 0, .int .i64 0]), 3, 24) := by kernel_rfl
theorem among48_c (p k : Nat) (hk : k ≤ 900000000) (W : World) (b : Nat) (hb : b = W.heap.size) (h : Src p k W) : Calls Tryd.prog 27 #[.pointer (some ⟨p, 0, none⟩), .slice (some ⟨b, 0, none⟩) 2 2] (W.alloc (.cells #[.int .i64 48, .int .i64 49] 2)) fun e w' => (e = .returned (.int .i64 48) ∨ e = .returned (.int .i64 49)) ∧ Src p (k + 2) w' ∧ W.grownBy w' (some p) := by
  subst hb
  have hp := h.1
  refine (among_c p k (some ⟨W.heap.size, 0, none⟩) 2 [48, 49] hk (by simp) (by simp) _ (h.below ((Below.refl _ _).alloc (Nat.le_refl _) _)) (RowI.new W 2 [48, 49]) (fun g o e => by injection e with e; injection e with e _; omega)).mono ?_
  rintro e w' ⟨⟨j, hj, rfl⟩, hS, hG⟩
  refine ⟨?_, hS, grown_trans (grown_of_below ((Below.refl _ _).alloc (Nat.le_refl _) _)) hG⟩
  rcases j with _ | _ | j
  · exact .inl rfl
  · exact .inr rfl
  · simp at hj
    omega
theorem make_hours (n : Nat) (hn : n ≤ 100) (W : World) : (Instr.makeSlice 38 (.int .i64 (n : Int)) (.int .i64 (n : Int))).run Tryd.prog W = .ok (.slice (some ⟨W.heap.size, 0, none⟩) n n) (W.alloc (.cells (ints (List.replicate (n * 3) 0)) 25)) := by
  obtain ⟨i, hi, hzz, hsz, hby⟩ := info_parts hour_info
  have hm : madeCells (Value.agg #[.int .i64 0, .int .i64 0, .int .i64 0]).cells (n * 3) = ints (List.replicate (n * 3) 0) := by
    apply Array.ext_getElem?
    intro j
    rw [ints_get]
    by_cases h : j < n * 3
    · have h3 : j % 3 = 0 ∨ j % 3 = 1 ∨ j % 3 = 2 := by omega
      rcases h3 with g | g | g <;> simp [madeCells, Value.cells, h, g]
    · simp [madeCells, h]
  rw [run_make_rowN (P := Tryd.prog) 38 25 i _ Tryd.underlying38 hi hzz .i64 .i64 n n (Nat.le_refl _) (by rw [hby]; omega) (by omega) W, hsz, hm]
set_option maxRecDepth 100000 in
set_option maxHeartbeats 4000000 in
theorem l08Draw_c (p k : Nat) (hk : k ≤ 700000000) (w : World) (h : Src p k w) : Calls Tryd.prog 26 #[.pointer (some ⟨p, 0, none⟩)] w fun e w' => (∃ (A : Option Addr) (n c : Nat) (z : List Int), e = .returned (.slice A n c) ∧ z.length = n * 3 ∧ (n ≤ 100 ∧ n ≤ c) ∧ RowI w' A z ∧ ∀ g o, A = some ⟨g, o, none⟩ → p < g) ∧ Src p (k + 200) w' ∧ w.grownBy w' (some p) := by
  have hp := h.1
  have HS0 := Lib.hid (h.below ((Below.refl w.heap.size w).alloc (Nat.le_refl _) (.cells #[] 25)))
  have g0 : w.grownBy (w.alloc (.cells #[] 25)) (some p) := grown_alloc (World.grownBy.refl _ _) _
  have HO0 := Lib.hid (OwnT.lit 25 w w.heap.size (Nat.le_refl _))
  have mk48 : ∀ W : World, (Instr.makeSlice 38 (.int .i64 48) (.int .i64 48)).run Tryd.prog W = .ok (.slice (some ⟨W.heap.size, 0, none⟩) 48 48) (W.alloc (.cells (ints (List.replicate (48 * 3) 0)) 25)) := make_hours 48 (by omega)
  have mk49 : ∀ W : World, (Instr.makeSlice 38 (.int .i64 49) (.int .i64 49)).run Tryd.prog W = .ok (.slice (some ⟨W.heap.size, 0, none⟩) 49 49) (W.alloc (.cells (ints (List.replicate (49 * 3) 0)) 25)) := make_hours 49 (by omega)
  clear h
  go_enter Tryd.func26, Tryd.ntmps26
  go_wp2_with (go_at_call 31; (with_reducible refine (pick_c p (k) 12 (by omega) (by omega) _ HS0.out).mono ?_); rintro e w1 ⟨⟨a, a0, a1, rfl⟩, hS, hG⟩; have HS1 := Lib.hid hS; have g1 : w.grownBy w1 (some p) := grown_trans g0 hG; have zw1 := g1.size; clear hS)
  have HO1 := Lib.hid (HO0.out.kept hG hp)
  go_loopw [3, 4] (fun v i wr => ∃ (m q : Nat) (z : List Int), i = .int .i64 q ∧ m + q ≤ 12 ∧ Hid (OwnT 25 wr w.heap.size v m z) ∧ Hid (Src p (k + 2 + 8 * m) wr) ∧ w.grownBy wr (some p)) (fun _ i _ => (intOf i).toNat)
  case atStart => exact ⟨0, a.toNat, [], by congr 1; omega, by omega, HO1, Lib.hid (HS1.out.mono (by omega)), g1⟩
  case round =>
    obtain ⟨m, q, z, rfl, hmq, HO, HS, hg⟩ := hrel
    have zg := hg.size
    rcases Nat.eq_zero_or_pos q with hq | hq
    · subst hq
      go_wp2_with (first | (go_at_call 31; (with_reducible refine (pick_c p (k + 2 + 8 * m) 20 (by omega) (by omega) _ HS.out).mono ?_); rintro e w1 ⟨⟨b, b0, b1, rfl⟩, hS, hG⟩; have HS1 := Lib.hid hS; have g1 : w.grownBy w1 (some p) := grown_trans hg hG; have zw1 := g1.size; clear hS; have HO1 := Lib.hid (HO.out.kept hG hp)) | (go_at_call 18; (with_reducible refine (l08DrawOne_c p (k + 2 + 8 * m + 2) (by omega) _ HS1.out).mono ?_); rintro e w2 ⟨⟨r, d, x, rfl⟩, hS, hG⟩; have HS2 := Lib.hid hS; have HO2 := Lib.hid (HO1.out.kept hG hp); have g2 := grown_trans g1 hG; have z2 := g2.size; clear hS) | (go_at_call 17; (with_reducible refine (l08Bent_c p (k + 2 + 8 * m + 2 + 8) (by omega) _ _ _ _ HS2.out).mono ?_); rintro e w4 ⟨⟨r4, d4, x4, rfl⟩, hS, hG⟩; have HS4 := Lib.hid hS; have HO4 := Lib.hid (HO2.out.kept hG hp); have g4 := grown_trans g2 hG; have z4 := g4.size; clear hS) | (at_builtin; refine wpList_push3 rfl _ _ 38 rfl Tryd.underlying38 hour_info _ _ _ rfl HO4.out rfl rfl (by first | rfl | simp) (by omega) (by omega) ?_; intro v' w3 hO' hB'; have HO' := Lib.hid hO'; have HS' := Lib.hid (HS4.out.belowB hB' hp); have g' := grown_below g4 hB'; clear hO') | (go_at_call 27; (with_reducible refine (among48_c p (k + 2 + 8 * m + 2) (by omega) _ _ (by first | rfl | simp) HS1.out).mono ?_); rintro e w2 ⟨hr48, hS, hG⟩; have HS2 := Lib.hid hS; have g2 := grown_trans g1 hG; have z2 := g2.size; clear hS; (rcases hr48 with rfl | rfl)))
      all_goals go_returns
      all_goals first
        | (obtain ⟨A, c, hv, hcp, hR, hA⟩ := HO'.out.row
           exact ⟨⟨A, m + 1, c, _, by simp [hv], HO'.out.1, ⟨by omega, hcp⟩, hR, fun g o e => Nat.lt_of_lt_of_le hp (hA g o e)⟩, HS'.out.mono (by omega), g'⟩)
        | exact ⟨⟨some ⟨w2.heap.size, 0, none⟩, 48, 48, List.replicate (48 * 3) 0, by simp, by simp, ⟨by omega, by omega⟩, RowI.new w2 25 (List.replicate (48 * 3) 0), fun g o e => by injection e with e; injection e with e _; omega⟩, (HS2.out.below ((Below.refl _ _).alloc (Nat.le_refl _) _)).mono (by omega), grown_alloc g2 _⟩
        | exact ⟨⟨some ⟨w2.heap.size, 0, none⟩, 49, 49, List.replicate (49 * 3) 0, by simp, by simp, ⟨by omega, by omega⟩, RowI.new w2 25 (List.replicate (49 * 3) 0), fun g o e => by injection e with e; injection e with e _; omega⟩, (HS2.out.below ((Below.refl _ _).alloc (Nat.le_refl _) _)).mono (by omega), grown_alloc g2 _⟩
        | (obtain ⟨A, c, hv, hcp, hR, hA⟩ := HO1.out.row
           exact ⟨⟨A, m, c, _, by simp [hv], HO1.out.1, ⟨by omega, hcp⟩, hR, fun g o e => Nat.lt_of_lt_of_le hp (hA g o e)⟩, HS1.out.mono (by omega), g1⟩)
    · have i1 : (0 : Int) < q := by omega
      go_wp2_with (first | (at_builtin; refine wpList_push3 rfl _ _ 38 rfl Tryd.underlying38 hour_info _ _ _ rfl HO1.out rfl rfl (by first | rfl | simp) (by omega) (by omega) ?_; intro v' w3 hO' hB'; have HO' := Lib.hid hO'; have HS' := Lib.hid (HS1.out.belowB hB' hp); have g' := grown_below g1 hB'; clear hO') | (go_at_call 18; (with_reducible refine (l08DrawOne_c p (k + 2 + 8 * m) (by omega) _ HS.out).mono ?_); rintro e w1 ⟨⟨r, d, x, rfl⟩, hS, hG⟩; have HS1 := Lib.hid hS; have HO1 := Lib.hid (HO.out.kept hG hp); have g1 := grown_trans hg hG; have z1 := g1.size; clear hS))
      go_roundw
      case rel => exact ⟨m + 1, q - 1, _, by congr 1; omega, by omega, HO', Lib.hid (HS'.out.mono (by omega)), g'⟩
      case measure => simp [intOf]; omega
theorem among0_1_2_3_24_25_m1_c (p k : Nat) (hk : k ≤ 900000000) (W : World) (b : Nat) (hb : b = W.heap.size) (h : Src p k W) : Calls Tryd.prog 27 #[.pointer (some ⟨p, 0, none⟩), .slice (some ⟨b, 0, none⟩) 7 7] (W.alloc (.cells #[.int .i64 0, .int .i64 1, .int .i64 2, .int .i64 3, .int .i64 24, .int .i64 25, .int .i64 (-1)] 2)) fun e w' => (∃ r : Int, e = .returned (.int .i64 r)) ∧ Src p (k + 2) w' ∧ W.grownBy w' (some p) :=
  amongL_c p k [0, 1, 2, 3, 24, 25, (-1)] hk (by simp) (by simp) W 2 b hb h
theorem OwnT.other {e : TypeId} {w : World} {B n b : Nat} {v : Value} {z : List Int} (h : OwnT e w B v n z) (hne : ∀ k, v.ownBlock = some k → k < b) (j : Nat) (y : Value) : OwnT e (w.setCell ⟨b, j, none⟩ y) B v n z := by
  refine ⟨h.1, World.ownsRow.kept h.2 (grown_set (World.grownBy.refl w (some b)) j y) ?_⟩
  rcases hv : v.ownBlock with _ | k
  · exact .inl rfl
  · refine .inr fun q => ?_
    injection q with q
    have := hne k hv
    omega
end Go.Proofs.YtapafambhidlhaaDoor
