/- Draws of tracks; numbers from bytes. -/
import Derived.Test.YtmkfkpfblnblgaaD
import Derived.Test.YtmkfkpfblnblgaaOV
import Derived.Test.YtmkfkpfblnblgaaX6
namespace Go.Proofs.Ytmkfkpfblnblgaa
open Go.ChangeShapes Go.WideShapes Go.ChangeAt Go.RowKit
set_option linter.unusedVariables false
set_option linter.unusedSimpArgs false

theorem grown_alloc {w w' : World} {k : Option Nat} (h : w.grownBy w' k) (o : Obj) : w.grownBy (w'.alloc o) k :=
  grown_trans h ⟨rfl, rfl, rfl, by simp, fun j hj _ => by
    have : (w'.heap.push o)[j]? = w'.heap[j]? := by rw [Array.getElem?_push_lt hj, Array.getElem?_eq_getElem hj]
    exact this⟩
theorem grown_setNew {w w' : World} {k : Option Nat} (h : w.grownBy w' k) {b : Nat} (hb : w.heap.size ≤ b) (j : Nat) (v : Value) : w.grownBy (w'.setCell ⟨b, j, none⟩ v) k :=
  ⟨h.os, h.tape, h.output, by simpa using h.size, fun i hi hne => (heap_setCell_other w' ⟨b, j, none⟩ i v (by show i ≠ b; omega)).trans (h.block i hi hne)⟩
theorem grown_of_below {w w' : World} {k : Option Nat} (h : Below w.heap.size w w') : w.grownBy w' k := ⟨h.os, h.tape, h.output, h.size, fun i hi _ => h.block i hi⟩
theorem l00From_c (A : Option Addr) (n c : Nat) (hn : n ≤ 1048576) (w : World) (hr : RowB w A n) : Calls Try.prog 66 #[.slice A n c] w fun e w' => e = .returned (.pointer (some ⟨w.heap.size, 0, none⟩)) ∧ Src w.heap.size 0 w' ∧ Below w.heap.size w w' := by
  go_enter Try.func66, Try.ntmps66
  go_wp2
  go_returns
  refine ⟨by simp, ⟨by simp, A, n, c, 0, 0, hn, by omega, by omega, by omega, by omega, by simp, by simp, by simp, fun j => by simp, hr.below ((Below.refl _ _).alloc (Nat.le_refl _) _), fun hn b off e => by obtain ⟨b', off', e', hb, _⟩ := hr hn; rw [e] at e'; injection e' with e'; injection e' with e1; omega⟩, (Below.refl _ _).alloc (Nat.le_refl _) _⟩
theorem grown_below {w w0 w' : World} {k : Option Nat} {B : Nat} (h : w.grownBy w0 k) (hb : Below B w0 w') (hB : w.heap.size ≤ B) : w.grownBy w' k :=
  ⟨hb.os.trans h.os, hb.tape.trans h.tape, hb.output.trans h.output, Nat.le_trans h.size hb.size, fun j hj hne => (hb.block j (by omega)).trans (h.block j hj hne)⟩
theorem Src.belowB {p k B : Nat} {w w' : World} (h : Src p k w) (hb : Below B w w') (hB : p < B) : Src p k w' := by
  obtain ⟨h0, A, n, c, a, s, h1, h2, h3, h4, h5, c0, c1, c2, hf, hr, hne⟩ := h
  refine ⟨Nat.lt_of_lt_of_le h0 hb.size, A, n, c, a, s, h1, h2, h3, h4, h5, (hb.cell (p := ⟨p, 0, none⟩) hB).trans c0, (hb.cell (p := ⟨p, 1, none⟩) hB).trans c1, (hb.cell (p := ⟨p, 2, none⟩) hB).trans c2, fun j => (hb.frozen (p := ⟨p, j, none⟩) hB).trans (hf j), fun hn => ?_, hne⟩
  obtain ⟨g, off, e, hl, hc⟩ := hr hn
  have hg := hne hn g off e
  exact ⟨g, off, e, Nat.lt_of_lt_of_le hl hb.size, fun i hi => by
    obtain ⟨y, y0, y1, hy⟩ := hc i hi
    exact ⟨y, y0, y1, (hb.cell (p := ⟨g, off + i, none⟩) (show g < B by omega)).trans hy⟩⟩
/-- A list of rows of two numbers that the call owns. -/
def OwnP (e : TypeId) (w : World) (B : Nat) (v : Value) (n : Nat) (z : List Int) : Prop := z.length = n * 2 ∧ w.ownsRow B e 2 v n (z.map (Value.int .i64))
theorem OwnP.kept {e : TypeId} {w w' : World} {B p n : Nat} {v : Value} {z : List Int} (h : OwnP e w B v n z) (hg : w.grownBy w' (some p)) (hb : p < B) : OwnP e w' B v n z := by
  refine ⟨h.1, World.ownsRow.kept h.2 hg ?_⟩
  rcases hv : v.ownBlock with _ | k
  · exact .inl rfl
  · refine .inr fun q => ?_
    injection q with q
    have := (World.ownsRow.lt h.2 k hv).1
    omega
theorem OwnP.alloc {e : TypeId} {w : World} {B n : Nat} {v : Value} {z : List Int} (h : OwnP e w B v n z) (o : Obj) : OwnP e (w.alloc o) B v n z := ⟨h.1, World.ownsRow.alloc h.2 o⟩
theorem OwnP.nil (e : TypeId) (w : World) (B : Nat) : OwnP e w B (.slice none 0 0) 0 [] := ⟨rfl, World.ownsRow_nil w B e 2⟩
theorem OwnP.other {e : TypeId} {w : World} {B n b : Nat} {v : Value} {z : List Int} (h : OwnP e w B v n z) (hne : ∀ k, v.ownBlock = some k → k ≠ b) (j : Nat) (y : Value) : OwnP e (w.setCell ⟨b, j, none⟩ y) B v n z := by
  refine ⟨h.1, World.ownsRow.kept h.2 (grown_set (World.grownBy.refl w (some b)) j y) ?_⟩
  rcases hv : v.ownBlock with _ | k
  · exact .inl rfl
  · refine .inr fun q => ?_
    injection q with q
    exact hne k hv q
theorem OwnP.lt {e : TypeId} {w : World} {B n : Nat} {v : Value} {z : List Int} (h : OwnP e w B v n z) : ∀ k, v.ownBlock = some k → B ≤ k ∧ k < w.heap.size := fun k hk => World.ownsRow.lt h.2 k hk
theorem OwnP.row {e : TypeId} {w : World} {B n : Nat} {v : Value} {z : List Int} (h : OwnP e w B v n z) : ∃ A c, v = .slice A n c ∧ RowI w A z ∧ ∀ g o, A = some ⟨g, o, none⟩ → B ≤ g := by
  obtain ⟨hl, h0⟩ := h
  rcases h0.2 with ⟨rfl, hn⟩ | ⟨g, cap, cur, rfl, hb, hg, hcap, _⟩
  · exact ⟨none, 0, by rw [hn], fun h => by omega, fun _ _ e => by cases e⟩
  · refine ⟨some ⟨g, 0, none⟩, cap, rfl, fun _ => ⟨g, 0, rfl, (Array.getElem?_eq_some_iff.1 hg).1, fun i hi => ?_⟩, fun g' o e => by injection e with e; injection e with e _; omega⟩
    rw [Nat.zero_add, World.ownsRow.cellAt h0 i (by omega), List.getElem?_map, nth_eq hi]
    rfl
theorem new_cells2 {w : World} {a b : Value} {t : TypeId} : ∀ (j : Nat) (u : Value), [a, b][j]? = some u → (w.alloc (.cells #[a, b] t)).cell? ((⟨w.heap.size, 0, none⟩ : Addr).add j) = some u := by
  intro j u hj
  match j, hj with
  | 0, hj => simp at hj; subst hj; simp [Addr.add]
  | 1, hj => simp at hj; subst hj; simp [Addr.add]
theorem wpList_push2 {P : Program} {w : World} {ops : Array Oper} {rest : List Oper} {o : Oper} {a : Act} {Q : Exit → Act → World → Prop} (hgd : o.guard = none) (s x : Operand) (t : TypeId)
    (ho : o.op = .call { callee := .builtin .append, args := #[s, x], argTypes := #[t, t] }) {e : TypeId} (ht : P.underlying t = some (.slice e)) (hinfo : (P.info? e).map (fun i => (i.zero, i.size, i.bytes)) = some (some (.agg #[.int .i64 0, .int .i64 0]), 2, 16))
    {w0 : World} {B n : Nat} {v : Value} {z : List Int} (y0 y1 : Int) {t' : TypeId} (hs : a.eval s = v) (hown : OwnP e w0 B v n z) (hw : w = w0.alloc (.cells #[.int .i64 y0, .int .i64 y1] t')) {g : Nat} (hx : a.eval x = .slice (some ⟨g, 0, none⟩) 1 1) (hgw : g = w0.heap.size) (hlen : n ≤ 1048576) (hB : B ≤ w0.heap.size)
    (h : ∀ v' w', OwnP e w' B v' (n + 1) (z ++ [y0, y1]) → Below B w0 w' → wpList P ops Q rest (a.put o.dst v') w') : wpList P ops Q (o :: rest) a w := by
  obtain ⟨i0, hi, hz0, hz1, hz2⟩ := info_parts hinfo
  subst hw
  subst hgw
  refine wpList_append_own _ hgd s x t ho B e i0 _ 2 16 ht hi hz0 hz1 hz2 rfl (by decide) v n _ hs (World.ownsRow.alloc hown.2 _) ⟨w0.heap.size, 0, none⟩ 1 1 [.int .i64 y0, .int .i64 y1] hx rfl new_cells2 ?_ ?_ ?_ ?_ ?_
  · intro u hu
    simp at hu
    rcases hu with rfl | rfl <;> rfl
  · unfold maxLen
    omega
  · omega
  · simp
    omega
  · intro v' w' ho' hg _
    refine h v' w' ⟨?_, ?_⟩ ((((Below.refl _ _).alloc hB _).grown hg (by simp; omega) fun k hk => (World.ownsRow.lt hown.2 k hk).1))
    · rw [List.length_append, hown.1]
      simp
      omega
    · rw [List.map_append]
      exact ho'
/-- A block with a track: its sections, and its loop's ends. -/
def TBx (b : Nat) (w : World) (v : Value) (f u : Int) : Prop := b < w.heap.size ∧ w.cell? ⟨b, 0, none⟩ = some v ∧ w.cell? ⟨b, 1, none⟩ = some (.int .i64 f) ∧ w.cell? ⟨b, 2, none⟩ = some (.int .i64 u) ∧ ∀ j, w.frozen? ⟨b, j, none⟩ = false
theorem TBx.kept {b p : Nat} {w w' : World} {v : Value} {f u : Int} (h : TBx b w v f u) (hG : w.grownBy w' (some p)) (hne : b ≠ p) : TBx b w' v f u := by
  obtain ⟨h0, c0, c1, c2, hf⟩ := h
  have hb := hG.block b h0 (fun e => hne (by injection e))
  exact ⟨Nat.lt_of_lt_of_le h0 hG.size, (World.cell?_of_block (a := ⟨b, 0, none⟩) hb).trans c0, (World.cell?_of_block (a := ⟨b, 1, none⟩) hb).trans c1, (World.cell?_of_block (a := ⟨b, 2, none⟩) hb).trans c2, fun j => (World.frozen?_of_block (a := ⟨b, j, none⟩) hb).trans (hf j)⟩
theorem TBx.belowB {b B : Nat} {w w' : World} {v : Value} {f u : Int} (h : TBx b w v f u) (hb : Below B w w') (hB : b < B) : TBx b w' v f u := by
  obtain ⟨h0, c0, c1, c2, hf⟩ := h
  exact ⟨Nat.lt_of_lt_of_le h0 hb.size, (hb.cell (p := ⟨b, 0, none⟩) hB).trans c0, (hb.cell (p := ⟨b, 1, none⟩) hB).trans c1, (hb.cell (p := ⟨b, 2, none⟩) hB).trans c2, fun j => (hb.frozen (p := ⟨b, j, none⟩) hB).trans (hf j)⟩
theorem TBx.below {b : Nat} {w w' : World} {v : Value} {f u : Int} (h : TBx b w v f u) (hb : Below w.heap.size w w') : TBx b w' v f u := h.belowB hb h.1
theorem TBx.other {b b' : Nat} {w : World} {v : Value} {f u : Int} (h : TBx b w v f u) (hne : b ≠ b') (j : Nat) (y : Value) : TBx b (w.setCell ⟨b', j, none⟩ y) v f u := by
  obtain ⟨h0, c0, c1, c2, hf⟩ := h
  have e : ∀ o, (w.setCell ⟨b', j, none⟩ y).cell? ⟨b, o, none⟩ = w.cell? ⟨b, o, none⟩ := fun o => World.cell?_of_block (a := ⟨b, o, none⟩) (heap_setCell_other w ⟨b', j, none⟩ b y hne)
  exact ⟨by simpa using h0, (e 0).trans c0, (e 1).trans c1, (e 2).trans c2, fun i => by simpa using hf i⟩
theorem TBx.set0 {b : Nat} {w : World} {v : Value} {f u : Int} (h : TBx b w v f u) (y : Value) : TBx b (w.setCell ⟨b, 0, none⟩ y) y f u := by
  obtain ⟨h0, c0, c1, c2, hf⟩ := h
  refine ⟨by simpa using h0, by simp [c0, go_sem], ?_, ?_, fun i => by simpa using hf i⟩
  · rw [World.cell?_setCell_other _ _ _ _ (by simp), c1]
  · rw [World.cell?_setCell_other _ _ _ _ (by simp), c2]
theorem TBx.set1 {b : Nat} {w : World} {v : Value} {f u : Int} (h : TBx b w v f u) (y : Int) : TBx b (w.setCell ⟨b, 1, none⟩ (.int .i64 y)) v y u := by
  obtain ⟨h0, c0, c1, c2, hf⟩ := h
  refine ⟨by simpa using h0, ?_, by simp [c1, go_sem], ?_, fun i => by simpa using hf i⟩
  · rw [World.cell?_setCell_other _ _ _ _ (by simp), c0]
  · rw [World.cell?_setCell_other _ _ _ _ (by simp), c2]
theorem TBx.set2 {b : Nat} {w : World} {v : Value} {f u : Int} (h : TBx b w v f u) (y : Int) : TBx b (w.setCell ⟨b, 2, none⟩ (.int .i64 y)) v f y := by
  obtain ⟨h0, c0, c1, c2, hf⟩ := h
  refine ⟨by simpa using h0, ?_, ?_, by simp [c2, go_sem], fun i => by simpa using hf i⟩
  · rw [World.cell?_setCell_other _ _ _ _ (by simp), c0]
  · rw [World.cell?_setCell_other _ _ _ _ (by simp), c1]
theorem TBx.new (w : World) (t : TypeId) (v : Value) (f u : Int) : TBx w.heap.size (w.alloc (.cells #[v, .int .i64 f, .int .i64 u] t)) v f u := ⟨by simp, by simp, by simp, by simp, fun j => by simp⟩
/-- The sections of a drawn track. -/
def DrawnS (z : List Int) (n : Nat) : Prop := ∀ k, k < n → (20000 ≤ secL z k ∧ secL z k ≤ 219000) ∧ (50 ≤ secG z k ∧ secG z k ≤ 640)
theorem DrawnS.snoc {z : List Int} {n : Nat} (h : DrawnS z n) (hz : z.length = n * 2) {a b : Int} (ha : 20000 ≤ a ∧ a ≤ 219000) (hb : 50 ≤ b ∧ b ≤ 640) : DrawnS (z ++ [a, b]) (n + 1) := fun k hk => by
  rcases Nat.lt_or_ge k n with g | g
  · have e1 : secL (z ++ [a, b]) k = secL z k := by
      unfold secL nth
      simp only [List.getD_eq_getElem?_getD]
      rw [List.getElem?_append_left (by omega)]
    have e2 : secG (z ++ [a, b]) k = secG z k := by
      unfold secG nth
      simp only [List.getD_eq_getElem?_getD]
      rw [List.getElem?_append_left (by omega)]
    rw [e1, e2]
    exact h k g
  · obtain rfl : k = n := by omega
    have e1 : secL (z ++ [a, b]) k = a := by
      unfold secL nth
      simp only [List.getD_eq_getElem?_getD]
      rw [List.getElem?_append_right (by omega), show k * 2 - z.length = 0 by omega]
      rfl
    have e2 : secG (z ++ [a, b]) k = b := by
      unfold secG nth
      simp only [List.getD_eq_getElem?_getD]
      rw [List.getElem?_append_right (by omega), show k * 2 + 1 - z.length = 1 by omega]
      rfl
    rw [e1, e2]
    exact ⟨ha, hb⟩
theorem DrawnS.secs {z : List Int} {n : Nat} (h : DrawnS z n) : secsB z n = true := secsB_good fun k hk => by
  have := h k hk
  unfold secB
  rw [inB_of (by omega) (by omega), inB_of (by omega) (by omega)]
  rfl
theorem DrawnS.len {z : List Int} {n : Nat} (h : DrawnS z n) : ∀ k, k ≤ n → 20000 * (k : Int) ≤ lenTo z k ∧ lenTo z k ≤ 219000 * (k : Int)
  | 0, _ => by simp [lenTo]
  | k + 1, hk => by
    have h1 := h.len k (by omega)
    have h2 := (h k (by omega)).1
    rw [lenTo]
    omega
theorem DrawnS.track {z : List Int} {n : Nat} (h : DrawnS z n) (h1 : 1 ≤ n) (h2 : n ≤ 5) {half : Int} (h3 : 5000 ≤ half) (h4 : half ≤ 9000) : trackB z n (lenTo z n / 2 - half) (lenTo z n - (lenTo z n / 2 - half)) = true := by
  obtain ⟨l0, l1⟩ := h.len n (Nat.le_refl _)
  unfold trackB
  rw [h.secs, inB_of (by omega) (by omega), inB_of (by omega) (by omega)]
  simp
  omega
theorem section_info : (Try.prog.info? 70).map (fun i => (i.zero, i.size, i.bytes)) = some (some (.agg #[.int .i64 0, .int .i64 0]), 2, 16) := by kernel_rfl
theorem r8At_c (A : Option Addr) (n c : Nat) (k : Int) (hn : n ≤ 1048576) (k0 : 0 ≤ k) (k1 : k ≤ 1000) (w : World) (hr : RowB w A n) : Calls Try.prog 69 #[.slice A n c, .int .i64 k, .int .i64 256] w fun e w' => (∃ r : Int, 0 ≤ r ∧ r ≤ 255 ∧ e = .returned (.int .i64 r)) ∧ w = w' := by
  by_cases hl : k < n
  · obtain ⟨b, off, rfl, hb, hc⟩ := hr (by omega)
    obtain ⟨i, rfl⟩ : ∃ i : Nat, k = i := ⟨k.toNat, by omega⟩
    obtain ⟨y, y0, y1, hy⟩ := hc i (by omega)
    have hl' : ¬ (n : Int) ≤ i := by omega
    have e1 : y % 256 = y := Int.emod_eq_of_lt y0 (by omega)
    go_enter Try.func69, Try.ntmps69
    go_wp2
    go_returns
    exact ⟨⟨y, y0, y1, by simp [e1]⟩, rfl⟩
  · have hl' : (n : Int) ≤ k := by omega
    go_enter Try.func69, Try.ntmps69
    go_wp2
    go_returns
    exact ⟨⟨0, by omega, by omega, by simp⟩, rfl⟩
theorem r8Wide_c (A : Option Addr) (n c : Nat) (k N : Int) (hn : n ≤ 1048576) (k0 : 0 ≤ k) (k1 : k ≤ 900) (N0 : 1 ≤ N) (N1 : N ≤ 1000000) (w : World) (hr : RowB w A n) : Calls Try.prog 37 #[.slice A n c, .int .i64 k, .int .i64 N] w fun e w' => (∃ r : Int, 0 ≤ r ∧ r < N ∧ e = .returned (.int .i64 r)) ∧ w = w' := by
  have n0 : ¬ N = 0 := by omega
  go_enter Try.func37, Try.ntmps37
  go_wp2_with (first
    | (go_at_call 69; (with_reducible refine (r8At_c A n c k hn k0 (by omega) _ hr).mono ?_); rintro e w' ⟨⟨r, r0, r1, rfl⟩, rfl⟩)
    | (go_at_call 69; (with_reducible refine (r8At_c A n c (k + 1) hn (by omega) (by omega) _ hr).mono ?_); rintro e w' ⟨⟨q, q0, q1, rfl⟩, rfl⟩))
  have m0 := Int.emod_nonneg (256 * r + q) n0
  have m1 := Int.emod_lt_of_pos (256 * r + q) (show 0 < N by omega)
  go_returns
  exact ⟨⟨_, m0, m1, by simp⟩, rfl⟩
theorem r8Long_n {n m : Nat} (h : n ≤ 1048576) (h' : m ≤ 1048576) (A C : Option Addr) (c c' : Nat) (w : World) : Calls Try.prog 34 #[.slice A n c, .slice C m c'] w fun e w' => e = .returned (.bool false) ∧ w = w' := by
  have h1 : ¬ (1048576 : Int) < n := by omega
  have h2 : ¬ (1048576 : Int) < m := by omega
  go_enter Try.func34, Try.ntmps34
  go_wp2
  go_ret
  simp
theorem r8Long_y {n m : Nat} (h : 1048576 < n ∨ 1048576 < m) (A C : Option Addr) (c c' : Nat) (w : World) : Calls Try.prog 34 #[.slice A n c, .slice C m c'] w fun e w' => e = .returned (.bool true) ∧ w = w' := by
  by_cases h1 : 1048576 < n
  · have h1' : (1048576 : Int) < n := by omega
    go_enter Try.func34, Try.ntmps34
    go_wp2
    go_ret
    simp
  · have h1' : ¬ (1048576 : Int) < n := by omega
    have h2' : (1048576 : Int) < m := by omega
    go_enter Try.func34, Try.ntmps34
    go_wp2
    go_ret
    simp
set_option maxRecDepth 100000 in
set_option maxHeartbeats 4000000 in
theorem l03Draw_c (p k : Nat) (hk : k ≤ 700000000) (w : World) (h : Src p k w) : Calls Try.prog 67 #[.pointer (some ⟨p, 0, none⟩)] w fun e w' => (∃ (A : Option Addr) (n c : Nat) (z : List Int) (f u : Int), e = .returned (.agg #[.slice A n c, .int .i64 f, .int .i64 u]) ∧ z.length = n * 2 ∧ (1 ≤ n ∧ n ≤ 5) ∧ DrawnS z n ∧ trackB z n f u = true ∧ RowI w' A z ∧ ∀ g o, A = some ⟨g, o, none⟩ → p < g) ∧ Src p (k + 200) w' ∧ w.grownBy w' (some p) := by
  have hp := h.1
  have HS0 := Lib.hid ((h.below ((Below.refl w.heap.size w).alloc (Nat.le_refl _) (.cells #[.slice none 0 0, .int .i64 0, .int .i64 0] 30))).below ((Below.refl _ _).alloc (Nat.le_refl _) (.cells #[.slice none 0 0, .int .i64 0, .int .i64 0] 30)))
  have g0 : w.grownBy ((w.alloc (.cells #[.slice none 0 0, .int .i64 0, .int .i64 0] 30)).alloc (.cells #[.slice none 0 0, .int .i64 0, .int .i64 0] 30)) (some p) := grown_alloc (grown_alloc (World.grownBy.refl _ _) _) _
  have R0 := Lib.hid ((TBx.new w 30 (.slice none 0 0) 0 0).below ((Below.refl _ _).alloc (Nat.le_refl _) (.cells #[.slice none 0 0, .int .i64 0, .int .i64 0] 30)))
  have T0 := Lib.hid (TBx.new (w.alloc (.cells #[.slice none 0 0, .int .i64 0, .int .i64 0] 30)) 30 (.slice none 0 0) 0 0)
  rw [World.size_alloc] at T0
  clear h
  go_enter Try.func67, Try.ntmps67
  go_wp2_with (go_at_call 85; (with_reducible refine (pick_c p (k) 5 (by omega) (by omega) _ HS0.out).mono ?_); rintro e w1 ⟨⟨a, a0, a1, rfl⟩, hS, hG⟩; have HS1 := Lib.hid hS; have g1 : w.grownBy w1 (some p) := grown_trans g0 hG; have zw1 := g1.size; clear hS)
  have RR1 := Lib.hid (R0.out.kept hG (by omega))
  have TT1 := Lib.hid (T0.out.kept hG (by omega))
  generalize hq0 : 1 + a = q0 at *
  go_loopw [4] (fun i wr => ∃ (m q : Nat) (v : Value) (z : List Int), i = .int .i64 q ∧ m + q ≤ 5 ∧ 1 ≤ m + q ∧ Hid (DrawnS z m) ∧ Hid (OwnP 70 wr (w.heap.size + 2) v m z) ∧ Hid (TBx (w.heap.size + 1) wr v 0 0) ∧ Hid (TBx w.heap.size wr (.slice none 0 0) 0 0) ∧ Hid (Src p (k + 2 + 4 * m) wr) ∧ w.grownBy wr (some p)) (fun i _ => (intOf i).toNat)
  case atStart => exact ⟨0, q0.toNat, .slice none 0 0, [], by congr 1; omega, by omega, by omega, Lib.hid (fun j hj => by omega), Lib.hid (OwnP.nil _ _ _), TT1, RR1, Lib.hid (HS1.out.mono (by omega)), g1⟩
  case round =>
    obtain ⟨m, q, v, z, rfl, hmq, hm1, HD, HO, HT, HR, HS, hg⟩ := hrel
    have zg := hg.size
    have hl0 := HT.out.1
    rcases Nat.eq_zero_or_pos q with hq | hq
    · subst hq
      obtain ⟨A, c, rfl, hrow, hA⟩ := HO.out.row
      have HRW := Lib.hid hrow
      clear hrow
      obtain ⟨_, t0, t1, t2, tf⟩ := HT.out
      have hz := HO.out.1
      have hsec := HD.out.secs
      obtain ⟨ln0, ln1⟩ := HD.out.len m (Nat.le_refl _)
      have HTK := Lib.hid (fun (half : Int) h3 h4 => HD.out.track (half := half) (by omega) (by omega) h3 h4)
      have hdv : (lenTo z m).tdiv 2 = lenTo z m / 2 := Int.tdiv_eq_ediv_of_nonneg (by omega)
      have nrt : ¬ w.heap.size = w.heap.size + 1 := by omega
      have ntr : ¬ w.heap.size + 1 = w.heap.size := by omega
      go_wp2_with (first | (go_at_call 55; (refine (l03Length_c A m c z (w.heap.size + 1) hz (by omega) hsec _ HRW.out t0).mono ?_); rintro e w' ⟨rfl, rfl⟩) | (go_at_call 85; (with_reducible refine (pick_c p (k + 2 + 4 * m) 5 (by omega) (by omega) _ HS.out).mono ?_); rintro e w3 ⟨⟨d, d0, d1, rfl⟩, hS, hG⟩; have HS3 := Lib.hid hS; have g3 : w.grownBy w3 (some p) := grown_trans hg hG; have zw3 := g3.size; clear hS; have d9 : d ≤ 4 := (by omega); have TT := Lib.hid (HT.out.kept hG (by omega)); have RR := Lib.hid (HR.out.kept hG (by omega)); obtain ⟨tl, s0, s1, s2, sf⟩ := TT.out; have sf1 := sf 1; have sf2 := sf 2; obtain ⟨rl, r0, r1, r2, rf⟩ := RR.out; have rf0 := rf 0; have rf1 := rf 1; have rf2 := rf 2; have HRW3 := Lib.hid (HRW.out.kept hG (fun g o e => by have := hA g o e; omega)); clear t0 t1 t2 tf))
      ((try simp only [Exit.inBlock, Exit.then]); first | (refine bodyPost_ret (by simp [results, Try.results67, go_sem, *]; try rfl) rfl ?_) | (obtain ⟨u0, q0⟩ : ∃ u, w'.cell? ⟨w.heap.size, 0, none⟩ = some u := ⟨_, by simp [*, go_sem]; rfl⟩; obtain ⟨u1, q1⟩ : ∃ u, w'.cell? ⟨w.heap.size, 1, none⟩ = some u := ⟨_, by simp [*, go_sem]; rfl⟩; obtain ⟨u2, q2⟩ : ∃ u, w'.cell? ⟨w.heap.size, 2, none⟩ = some u := ⟨_, by simp [*, go_sem]; rfl⟩; refine bodyPost_ret (by simp [results, Try.results67, go_sem, q0, q1, q2]; try rfl) rfl ?_))
      refine ⟨⟨A, m, c, z, _, _, rfl, hz, by omega, HD.out, HTK.out (5000 + 1000 * d) (by omega) (by omega), ?_, fun g o e => by have := hA g o e; omega⟩, ?_, ?_⟩
      · have nA1 : ∀ g o, A = some ⟨g, o, none⟩ → g ≠ w.heap.size + 1 := fun g o e => by have := hA g o e; omega
        have nA2 : ∀ g o, A = some ⟨g, o, none⟩ → g ≠ w.heap.size := fun g o e => by have := hA g o e; omega
        exact ((((HRW3.out.kept (grown_set (World.grownBy.refl _ _) _ _) nA1).kept (grown_set (World.grownBy.refl _ _) _ _) nA1).kept (grown_set (World.grownBy.refl _ _) _ _) nA2).kept (grown_set (World.grownBy.refl _ _) _ _) nA2).kept (grown_set (World.grownBy.refl _ _) _ _) nA2
      · exact (((((HS3.out.other (show p < w.heap.size + 1 by omega) _ _).other (show p < w.heap.size + 1 by omega) _ _).other hp _ _).other hp _ _).other hp _ _).mono (by omega)
      · exact grown_setNew (grown_setNew (grown_setNew (grown_setNew (grown_setNew g3 (show w.heap.size ≤ w.heap.size + 1 by omega) _ _) (show w.heap.size ≤ w.heap.size + 1 by omega) _ _) (Nat.le_refl _) _ _) (Nat.le_refl _) _ _) (Nat.le_refl _) _ _
    · have i1 : (0 : Int) < q := by omega
      go_wp2_with (go_at_call 85; (with_reducible refine (pick_c p (k + 2 + 4 * m) 200 (by omega) (by omega) _ HS.out).mono ?_); rintro e w1 ⟨⟨a, a0, a1, rfl⟩, hS, hG⟩; have HS1 := Lib.hid hS; have g1 : w.grownBy w1 (some p) := grown_trans hg hG; have zw1 := g1.size; clear hS; have HT1 := Lib.hid (HT.out.kept hG (by omega)); have HR1 := Lib.hid (HR.out.kept hG (by omega)); have HO1 := Lib.hid (HO.out.kept hG (by omega)); have a9 : a ≤ 199 := (by omega); have zz1 := g1.size; have tl1 := HT1.out.1)
      (go_at_call 85; (with_reducible refine (pick_c p (k + 2 + 4 * m + 2) 60 (by omega) (by omega) _ (HS1.out.below ((Below.refl _ _).alloc (Nat.le_refl _) _))).mono ?_); rintro e w2 ⟨⟨b, b0, b1, rfl⟩, hS, hG⟩; have HS2 := Lib.hid hS; have g2 : w.grownBy w2 (some p) := grown_trans (grown_alloc g1 _) hG; have zw2 := g2.size; clear hS; have HT2 := Lib.hid ((HT1.out.below ((Below.refl _ _).alloc (Nat.le_refl _) _)).kept hG (by omega)); have HR2 := Lib.hid ((HR1.out.below ((Below.refl _ _).alloc (Nat.le_refl _) _)).kept hG (by omega)); have HO2 := Lib.hid ((HO1.out.alloc (.cells #[.int .i64 (20000 + 1000 * a), .int .i64 0] 70)).kept hG (by omega)); have b9 : b ≤ 59 := (by omega); have hlt2 : w1.heap.size < w2.heap.size := (by have := hG.size; simp at this; omega); obtain ⟨xc0, xc1, xf⟩ : w2.cell? ⟨w1.heap.size, 0, none⟩ = some (.int .i64 (20000 + 1000 * a)) ∧ w2.cell? ⟨w1.heap.size, 1, none⟩ = some (.int .i64 0) ∧ w2.frozen? ⟨w1.heap.size, 1, none⟩ = false := (by have hbk := hG.block w1.heap.size (by simp) (by simp; omega); refine ⟨(World.cell?_of_block (a := ⟨w1.heap.size, 0, none⟩) hbk).trans (by simp), (World.cell?_of_block (a := ⟨w1.heap.size, 1, none⟩) hbk).trans (by simp), (World.frozen?_of_block (a := ⟨w1.heap.size, 1, none⟩) hbk).trans (by simp)⟩); have HT3 := Lib.hid (HT2.out.other (show w.heap.size + 1 ≠ w1.heap.size by omega) 1 (.int .i64 (50 + 10 * b))); have HR3 := Lib.hid (HR2.out.other (show w.heap.size ≠ w1.heap.size by omega) 1 (.int .i64 (50 + 10 * b))); have HO3 := Lib.hid (HO2.out.other (b := w1.heap.size) (fun k hk => by have := (HO1.out.lt k hk).2; omega) 1 (.int .i64 (50 + 10 * b))); have HS3 := Lib.hid (HS2.out.other (show p < w1.heap.size by omega) 1 (.int .i64 (50 + 10 * b))); have g3 := grown_setNew g2 (show w.heap.size ≤ w1.heap.size by omega) 1 (.int .i64 (50 + 10 * b)); obtain ⟨tl, t0, _, _, tf⟩ := HT3.out; have nxt : ¬ w1.heap.size = w.heap.size + 1 := (by omega); have ntx : ¬ w.heap.size + 1 = w1.heap.size := (by omega); obtain ⟨tl2, t02, _, _, _⟩ := HT2.out)
      go_wp2_with (at_builtin; refine wpList_push2 rfl _ _ 28 rfl Try.underlying28 section_info _ _ rfl HO3.out rfl rfl (by first | rfl | simp) (by omega) (by simp; omega) ?_; intro v' w3 hO' hB'; obtain ⟨A', c9, hv9, _, _⟩ := hO'.row; subst hv9; have HO' := Lib.hid hO'; have HS' := Lib.hid (HS3.out.belowB hB' (by omega)); have HT' := Lib.hid (HT3.out.belowB hB' (by omega)); have HR' := Lib.hid (HR3.out.belowB hB' (by omega)); have g' := grown_below g3 hB' (by omega); clear hO'; have HO'' := Lib.hid (HO'.out.other (b := w.heap.size + 1) (fun k hk => by have := (HO'.out.lt k hk).1; omega) 0 (.slice A' (m + 1) c9)); have HS'' := Lib.hid (HS'.out.other (show p < w.heap.size + 1 by omega) 0 (.slice A' (m + 1) c9)); have HT'' := Lib.hid (HT'.out.set0 (.slice A' (m + 1) c9)); have HR'' := Lib.hid (HR'.out.other (show w.heap.size ≠ w.heap.size + 1 by omega) 0 (.slice A' (m + 1) c9)); have g'' := grown_setNew g' (show w.heap.size ≤ w.heap.size + 1 by omega) 0 (.slice A' (m + 1) c9); obtain ⟨tl3, t03, _, _, tf3⟩ := HT'.out; have tf30 := tf3 0)
      go_roundw
      case rel => exact ⟨m + 1, q - 1, _, _, by congr 1; omega, by omega, by omega, Lib.hid (HD.out.snoc HO.out.1 (by omega) (by omega)), HO'', HT'', HR'', Lib.hid (HS''.out.mono (by omega)), g''⟩
      case measure => simp [intOf]; omega
end Go.Proofs.Ytmkfkpfblnblgaa
