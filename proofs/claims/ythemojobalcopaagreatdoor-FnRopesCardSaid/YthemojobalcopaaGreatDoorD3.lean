/- Draws of lists of limits and of hours. -/
import Derived.Test.YthemojobalcopaaGreatDoorD2
import Derived.Test.YthemojobalcopaaGreatDoorOV
namespace Go.Proofs.YthemojobalcopaaGreatDoor
open Go.ChangeShapes Go.WideShapes Go.ChangeAt Go.RowKit
set_option linter.unusedVariables false
set_option linter.unusedSimpArgs false

theorem Src.belowB {p k B : Nat} {w w' : World} (h : Src p k w) (hb : Below B w w') (hB : p < B) : Src p k w' := by
  obtain ⟨h0, A, n, c, a, s, h1, h2, h3, h4, h5, c0, c1, c2, hf, hr, hne⟩ := h
  refine ⟨Nat.lt_of_lt_of_le h0 hb.size, A, n, c, a, s, h1, h2, h3, h4, h5, (hb.cell (p := ⟨p, 0, none⟩) hB).trans c0, (hb.cell (p := ⟨p, 1, none⟩) hB).trans c1, (hb.cell (p := ⟨p, 2, none⟩) hB).trans c2, fun j => (hb.frozen (p := ⟨p, j, none⟩) hB).trans (hf j), fun hn => ?_, hne⟩
  obtain ⟨g, off, e, hl, hc⟩ := hr hn
  have hg := hne hn g off e
  exact ⟨g, off, e, Nat.lt_of_lt_of_le hl hb.size, fun i hi => by
    obtain ⟨y, y0, y1, hy⟩ := hc i hi
    exact ⟨y, y0, y1, (hb.cell (p := ⟨g, off + i, none⟩) (show g < B by omega)).trans hy⟩⟩
theorem grown_below {w w0 w' : World} {k : Option Nat} (h : w.grownBy w0 k) (hb : Below w.heap.size w0 w') : w.grownBy w' k :=
  ⟨hb.os.trans h.os, hb.tape.trans h.tape, hb.output.trans h.output, Nat.le_trans h.size hb.size, fun j hj hne => (hb.block j hj).trans (h.block j hj hne)⟩
/-- A list of rows of three numbers that the call owns. -/
def OwnT (e : TypeId) (w : World) (B : Nat) (v : Value) (n : Nat) (z : List Int) : Prop := z.length = n * 3 ∧ w.ownsRow B e 3 v n (z.map (Value.int .i64))
theorem OwnT.kept {e : TypeId} {w w' : World} {B p n : Nat} {v : Value} {z : List Int} (h : OwnT e w B v n z) (hg : w.grownBy w' (some p)) (hb : p < B) : OwnT e w' B v n z := by
  refine ⟨h.1, World.ownsRow.kept h.2 hg ?_⟩
  rcases hv : v.ownBlock with _ | k
  · exact .inl rfl
  · refine .inr fun q => ?_
    injection q with q
    have := (World.ownsRow.lt h.2 k hv).1
    omega
theorem OwnT.alloc {e : TypeId} {w : World} {B n : Nat} {v : Value} {z : List Int} (h : OwnT e w B v n z) (o : Obj) : OwnT e (w.alloc o) B v n z := ⟨h.1, World.ownsRow.alloc h.2 o⟩
theorem OwnT.lit (e : TypeId) (w : World) (B : Nat) (hb : B ≤ w.heap.size) : OwnT e (w.alloc (.cells #[] e)) B (.slice (some ⟨w.heap.size, 0, none⟩) 0 0) 0 [] :=
  ⟨rfl, World.ownsRow_lit w #[] 0 hb (by simp [maxLen]) rfl⟩
theorem OwnT.row {e : TypeId} {w : World} {B n : Nat} {v : Value} {z : List Int} (h : OwnT e w B v n z) : ∃ A c, v = .slice A n c ∧ n ≤ c ∧ RowI w A z ∧ ∀ g o, A = some ⟨g, o, none⟩ → B ≤ g := by
  obtain ⟨hl, h0⟩ := h
  rcases h0.2 with ⟨rfl, hn⟩ | ⟨g, cap, cur, rfl, hb, hg, hcap, _⟩
  · exact ⟨none, 0, by rw [hn], by omega, fun h => by omega, fun _ _ e => by cases e⟩
  · refine ⟨some ⟨g, 0, none⟩, cap, rfl, hcap, fun _ => ⟨g, 0, rfl, (Array.getElem?_eq_some_iff.1 hg).1, fun i hi => ?_⟩, fun g' o e => by injection e with e; injection e with e _; omega⟩
    rw [Nat.zero_add, World.ownsRow.cellAt h0 i (by omega), List.getElem?_map, nth_eq hi]
    rfl
theorem new_cells3 {w : World} {a b c : Value} {t : TypeId} : ∀ (j : Nat) (u : Value), [a, b, c][j]? = some u → (w.alloc (.cells #[a, b, c] t)).cell? ((⟨w.heap.size, 0, none⟩ : Addr).add j) = some u := by
  intro j u hj
  match j, hj with
  | 0, hj => simp at hj; subst hj; simp [Addr.add]
  | 1, hj => simp at hj; subst hj; simp [Addr.add]
  | 2, hj => simp at hj; subst hj; simp [Addr.add]
theorem wpList_push3 {P : Program} {w : World} {ops : Array Oper} {rest : List Oper} {o : Oper} {a : Act} {Q : Exit → Act → World → Prop} (hgd : o.guard = none) (s x : Operand) (t : TypeId)
    (ho : o.op = .call { callee := .builtin .append, args := #[s, x], argTypes := #[t, t] }) {e : TypeId} (ht : P.underlying t = some (.slice e)) (hinfo : (P.info? e).map (fun i => (i.zero, i.size, i.bytes)) = some (some (.agg #[.int .i64 0, .int .i64 0, .int .i64 0]), 3, 24))
    {w0 : World} {B n : Nat} {v : Value} {z : List Int} (y0 y1 y2 : Int) {t' : TypeId} (hs : a.eval s = v) (hown : OwnT e w0 B v n z) (hw : w = w0.alloc (.cells #[.int .i64 y0, .int .i64 y1, .int .i64 y2] t')) {g : Nat} (hx : a.eval x = .slice (some ⟨g, 0, none⟩) 1 1) (hgw : g = w0.heap.size) (hlen : n ≤ 1048576) (hB : B ≤ w0.heap.size)
    (h : ∀ v' w', OwnT e w' B v' (n + 1) (z ++ [y0, y1, y2]) → Below B w0 w' → wpList P ops Q rest (a.put o.dst v') w') : wpList P ops Q (o :: rest) a w := by
  obtain ⟨i0, hi, hz0, hz1, hz2⟩ := info_parts hinfo
  subst hw
  subst hgw
  refine wpList_append_own _ hgd s x t ho B e i0 _ 3 24 ht hi hz0 hz1 hz2 rfl (by decide) v n _ hs (World.ownsRow.alloc hown.2 _) ⟨w0.heap.size, 0, none⟩ 1 1 [.int .i64 y0, .int .i64 y1, .int .i64 y2] hx rfl new_cells3 ?_ ?_ ?_ ?_ ?_
  · intro u hu
    simp at hu
    rcases hu with rfl | rfl | rfl <;> rfl
  · unfold maxLen
    omega
  · omega
  · simp
    omega
  · intro v' w' ho' hg _
    refine h v' w' ⟨?_, ?_⟩ ((((Below.refl _ _).alloc hB _).grown hg (by simp; omega) fun k hk => (World.ownsRow.lt hown.2 k hk).1))
    · rw [List.length_append, hown.1]
      simp
      omega
    · rw [List.map_append]
      exact ho'
theorem among0_1_2_3_24_25_m1_c (p k : Nat) (hk : k ≤ 900000000) (W : World) (b : Nat) (hb : b = W.heap.size) (h : Src p k W) : Calls Tryz.prog 22 #[.pointer (some ⟨p, 0, none⟩), .slice (some ⟨b, 0, none⟩) 7 7] (W.alloc (.cells #[.int .i64 0, .int .i64 1, .int .i64 2, .int .i64 3, .int .i64 24, .int .i64 25, .int .i64 (-1)] 2)) fun e w' => (∃ r : Int, e = .returned (.int .i64 r)) ∧ Src p (k + 2) w' ∧ W.grownBy w' (some p) :=
  amongL_c p k [0, 1, 2, 3, 24, 25, (-1)] hk (by simp) (by simp) W 2 b hb h
theorem OwnT.other {e : TypeId} {w : World} {B n b : Nat} {v : Value} {z : List Int} (h : OwnT e w B v n z) (hne : ∀ k, v.ownBlock = some k → k < b) (j : Nat) (y : Value) : OwnT e (w.setCell ⟨b, j, none⟩ y) B v n z := by
  refine ⟨h.1, World.ownsRow.kept h.2 (grown_set (World.grownBy.refl w (some b)) j y) ?_⟩
  rcases hv : v.ownBlock with _ | k
  · exact .inl rfl
  · refine .inr fun q => ?_
    injection q with q
    have := hne k hv
    omega
end Go.Proofs.YthemojobalcopaaGreatDoor
