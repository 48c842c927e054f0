/- Slices of numbers that a call makes: what they own, how they grow. -/
import Derived.Test.YtbdhelekmdpbiaaS
import Derived.WalkKit
import Derived.OwnWalk
namespace Go.Proofs.Ytbdhelekmdpbiaa
open Go.ChangeShapes Go.WideShapes Go.ChangeAt Go.RowKit
set_option linter.unusedVariables false
set_option linter.unusedSimpArgs false

/-- The slice v owns the numbers xs, in a block from B on. -/
def OwnI (e : TypeId) (w : World) (B : Nat) (v : Value) (xs : List Int) : Prop := w.ownsRow B e 1 v xs.length (xs.map (Value.int .i64))
theorem OwnI.slice {e : TypeId} {w : World} {B : Nat} {v : Value} {xs : List Int} (h : OwnI e w B v xs) : ∃ A c, v = .slice A xs.length c ∧ RowI w A xs := by
  have h0 : w.ownsRow B e 1 v xs.length (xs.map (Value.int .i64)) := h
  rcases h0.2 with ⟨rfl, hn⟩ | ⟨g, cap, cur, rfl, hb, hg, _⟩
  · exact ⟨none, 0, by rw [hn], fun h => by omega⟩
  · refine ⟨some ⟨g, 0, none⟩, cap, rfl, fun _ => ⟨g, 0, rfl, (Array.getElem?_eq_some_iff.1 hg).1, fun i hi => ?_⟩⟩
    rw [Nat.zero_add, World.ownsRow.cellAt h0 i (by omega), List.getElem?_map, nth_eq hi]
    rfl
theorem OwnI.nil (e : TypeId) (w : World) (B : Nat) : OwnI e w B (.slice none 0 0) [] := World.ownsRow_nil w B e 1
theorem OwnI.lit (e : TypeId) (w : World) (B : Nat) (hb : B ≤ w.heap.size) : OwnI e (w.alloc (.cells #[] e)) B (.slice (some ⟨w.heap.size, 0, none⟩) 0 0) [] :=
  World.ownsRow_lit w #[] 0 hb (by simp [maxLen]) rfl
theorem OwnI.alloc {e : TypeId} {w : World} {B : Nat} {v : Value} {xs : List Int} (h : OwnI e w B v xs) (o : Obj) : OwnI e (w.alloc o) B v xs := World.ownsRow.alloc h o
theorem OwnI.drewN {e : TypeId} {w : World} {B : Nat} {v : Value} {xs : List Int} (h : OwnI e w B v xs) (n : Nat) : OwnI e (w.drewN n) B v xs := h
theorem OwnI.below {e : TypeId} {w w' : World} {B : Nat} {v : Value} {xs : List Int} (h : OwnI e w B v xs) (hb : Below w.heap.size w w') : OwnI e w' B v xs := by
  have h0 : w.ownsRow B e 1 v xs.length (xs.map (Value.int .i64)) := h
  refine ⟨h0.1, ?_⟩
  rcases h0.2 with hn | ⟨g, cap, cur, rfl, hbb, hg, rest⟩
  · exact .inl hn
  · exact .inr ⟨g, cap, cur, rfl, hbb, (hb.block g (Array.getElem?_eq_some_iff.1 hg).1).trans hg, rest⟩
theorem OwnI.lt {e : TypeId} {w : World} {B : Nat} {v : Value} {xs : List Int} (h : OwnI e w B v xs) : ∀ k, v.ownBlock = some k → B ≤ k ∧ k < w.heap.size := World.ownsRow.lt h
theorem OwnI.snoc {e : TypeId} {w : World} {B : Nat} {v : Value} {xs : List Int} {x : Int} (h : w.ownsRow B e 1 v (xs.length + 1) (xs.map (Value.int .i64) ++ [Value.int .i64 x])) : OwnI e w B v (xs ++ [x]) := by
  unfold OwnI
  simpa using h
theorem OwnI.mono {e : TypeId} {w : World} {B B' : Nat} {v : Value} {xs : List Int} (h : OwnI e w B v xs) (hB : B' ≤ B) : OwnI e w B' v xs := by
  have h0 : w.ownsRow B e 1 v xs.length (xs.map (Value.int .i64)) := h
  refine ⟨h0.1, ?_⟩
  rcases h0.2 with hn | ⟨g, cap, cur, rfl, hbb, rest⟩
  · exact .inl hn
  · exact .inr ⟨g, cap, cur, rfl, Nat.le_trans hB hbb, rest⟩
theorem OwnI.grown {e : TypeId} {w w' : World} {B C : Nat} {a : World} {v : Value} {xs : List Int} (h : OwnI e w B v xs) (hC : C ≤ B) (hb : Below C a w) (hs : C ≤ w.heap.size) (hg : w.grownBy w' v.ownBlock) : Below C a w' :=
  hb.grown hg hs fun k hk => Nat.le_trans hC (h.lt k hk).1
theorem new_cells {w : World} {y : Value} {t : TypeId} : ∀ (j : Nat) (u : Value), [y][j]? = some u → (w.alloc (.cells #[y] t)).cell? ((⟨w.heap.size, 0, none⟩ : Addr).add j) = some u := by
  intro j u hj
  match j, hj with
  | 0, hj => simp at hj; subst hj; simp [Addr.add]
/-- append of one number to a slice that the call owns -/
theorem wpList_push {P : Program} {w : World} {ops : Array Oper} {rest : List Oper} {o : Oper} {a : Act} {Q : Exit → Act → World → Prop} (hgd : o.guard = none) (s x : Operand) (t : TypeId)
    (ho : o.op = .call { callee := .builtin .append, args := #[s, x], argTypes := #[t, t] }) {e : TypeId} (ht : P.underlying t = some (.slice e)) (hinfo : (P.info? e).map (fun i => (i.zero, i.size, i.bytes)) = some (some (.int .i64 0), 1, 8))
    {w0 : World} {B : Nat} {v : Value} {xs : List Int} (y : Int) {t' : TypeId} (hs : a.eval s = v) (hown : OwnI e w0 B v xs) (hw : w = w0.alloc (.cells #[.int .i64 y] t')) (hx : a.eval x = .slice (some ⟨w0.heap.size, 0, none⟩) 1 1) (hlen : xs.length ≤ 1048576) (hB : B ≤ w0.heap.size)
    (h : ∀ v' w', OwnI e w' B v' (xs ++ [y]) → Below B w0 w' → wpList P ops Q rest (a.put o.dst v') w') : wpList P ops Q (o :: rest) a w := by
  obtain ⟨i0, hi, hz0, hz1, hz2⟩ := info_parts hinfo
  subst hw
  refine wpList_append_own _ hgd s x t ho B e i0 (.int .i64 0) 1 8 ht hi hz0 hz1 hz2 rfl (by decide) v xs.length _ hs (World.ownsRow.alloc hown _) ⟨w0.heap.size, 0, none⟩ 1 1 [.int .i64 y] hx rfl new_cells ?_ ?_ ?_ ?_ ?_
  · intro u hu
    simp at hu
    subst hu
    rfl
  · unfold maxLen
    omega
  · omega
  · simp
    omega
  · intro v' w' ho' hg _
    exact h v' w' (OwnI.snoc ho') (OwnI.grown (OwnI.alloc hown _) (Nat.le_refl _) ((Below.refl _ _).alloc hB _) (by simp; omega) hg)
theorem int64_info : (Try.prog.info? 2).map (fun i => (i.zero, i.size, i.bytes)) = some (some (.int .i64 0), 1, 8) := by kernel_rfl
/-- Every cell of an owned slice may be written. -/
theorem OwnI.store {e : TypeId} {w : World} {B g n c : Nat} {xs : List Int} (h : OwnI e w B (.slice (some ⟨g, 0, none⟩) n c) xs) (j : Nat) (y : Int) : OwnI e (w.setCell ⟨g, j, none⟩ (.int .i64 y)) B (.slice (some ⟨g, 0, none⟩) n c) (xs.set j y) ∧ Below B w (w.setCell ⟨g, j, none⟩ (.int .i64 y)) := by
  have h0 : w.ownsRow B e 1 (.slice (some ⟨g, 0, none⟩) n c) xs.length (xs.map (Value.int .i64)) := h
  have hn : xs.length = n := by
    rcases h0.2 with ⟨h', _⟩ | ⟨_, _, _, h', _⟩
    · simp at h'
    · simp only [Value.slice.injEq] at h'
      exact h'.2.1.symm
  rw [hn] at h0
  obtain ⟨h1, h2⟩ := World.ownsRow.stored h0 j (.int .i64 y)
  refine ⟨?_, (Below.refl _ _).setCell (h.lt g rfl).1 _⟩
  unfold OwnI
  rw [List.length_set, hn, List.map_set]
  exact h1
theorem OwnI.free {e : TypeId} {w : World} {B g n c : Nat} {xs : List Int} (h : OwnI e w B (.slice (some ⟨g, 0, none⟩) n c) xs) (j : Nat) : w.frozen? ⟨g, j, none⟩ = false := by
  have h0 : w.ownsRow B e 1 (.slice (some ⟨g, 0, none⟩) n c) xs.length (xs.map (Value.int .i64)) := h
  rcases h0.2 with ⟨h', _⟩ | ⟨g', cap', cur, h', _, hg, _⟩
  · simp at h'
  · simp only [Value.slice.injEq, Option.some.injEq, Addr.mk.injEq, and_true, true_and] at h'
    obtain ⟨h1, _⟩ := h'
    subst h1
    exact frozen_of_row w g j cur e hg
theorem OwnI.shape {e : TypeId} {w : World} {B : Nat} {v : Value} {xs : List Int} (h : OwnI e w B v xs) : (v = .slice none 0 0 ∧ xs = []) ∨ ∃ g c, v = .slice (some ⟨g, 0, none⟩) xs.length c ∧ B ≤ g ∧ g < w.heap.size ∧ ∀ i, i < xs.length → w.cell? ⟨g, i, none⟩ = some (.int .i64 (nth xs i)) := by
  have h0 : w.ownsRow B e 1 v xs.length (xs.map (Value.int .i64)) := h
  rcases h0.2 with ⟨rfl, hn⟩ | ⟨g, cap, cur, rfl, hb, hg, _⟩
  · exact .inl ⟨rfl, List.eq_nil_of_length_eq_zero hn⟩
  · refine .inr ⟨g, cap, rfl, hb, (Array.getElem?_eq_some_iff.1 hg).1, fun i hi => ?_⟩
    rw [World.ownsRow.cellAt h0 i (by omega), List.getElem?_map, nth_eq hi]
    rfl
theorem OwnI.row {e : TypeId} {w : World} {B n c : Nat} {A : Option Addr} {xs : List Int} (h : OwnI e w B (.slice A n c) xs) : xs.length = n ∧ RowI w A xs := by
  obtain ⟨A', c', h', hr⟩ := h.slice
  simp only [Value.slice.injEq] at h'
  obtain ⟨rfl, rfl, _⟩ := h'
  exact ⟨rfl, hr⟩
/-- Has ys the marks k, k + 1, ..? -/
def Marked (k : Int) (ys : List Int) (m : Nat) : Prop := ∀ i, i < m → nth ys i = k + i
theorem Marked.step {k : Int} {ys : List Int} {m : Nat} (h : Marked k ys m) (hm : m < ys.length) : Marked k (ys.set m (k + m)) (m + 1) := fun i hi => by
  unfold nth
  rw [List.getD_eq_getElem?_getD, List.getElem?_set]
  by_cases e : m = i
  · subst e
    simp [hm]
  · rw [if_neg e, ← List.getD_eq_getElem?_getD]
    exact h i (by omega)
set_option maxHeartbeats 1000000 in
theorem markInt64S_c (v : Value) (xs : List Int) (k : Int) (B : Nat) (hk : 0 ≤ k) (hk' : k ≤ 1000000000) (hn : xs.length ≤ 1048576) (w : World) (h : OwnI 2 w B v xs) : Calls Try.prog 8 #[v, .int .i64 k] w fun e w' => e = .returned (.int .i64 (k + xs.length)) ∧ ∃ ys, ys.length = xs.length ∧ Marked k ys xs.length ∧ OwnI 2 w' B v ys ∧ Below B w w' := by
  rcases h.shape with ⟨rfl, rfl⟩ | ⟨g, c, rfl, hg, hgl, hc⟩
  · go_enter Try.func8, Try.ntmps8
    go_wp2
    go_loopw [1, 5] (fun q i wr => i = .int .i64 0 ∧ q = .int .i64 k ∧ wr = w) (fun _ i _ => 0)
    case atStart => exact ⟨rfl, rfl, rfl⟩
    case round =>
      obtain ⟨rfl, rfl, rfl⟩ := hrel
      go_wp2
      go_returns
      exact ⟨by simp, [], rfl, fun i hi => by simp at hi, h, Below.refl _ _⟩
  have HH := Lib.hid h
  clear h hc
  go_enter Try.func8, Try.ntmps8
  go_wp2
  go_loopw [1, 5] (fun q i wr => ∃ (m : Nat) (ys : List Int), m ≤ xs.length ∧ i = .int .i64 m ∧ q = .int .i64 (k + m) ∧ ys.length = xs.length ∧ Hid (Marked k ys m) ∧ Hid (OwnI 2 wr B (.slice (some ⟨g, 0, none⟩) xs.length c) ys) ∧ Below B w wr) (fun _ i _ => xs.length - (intOf i).toNat)
  case atStart => exact ⟨0, xs, by omega, rfl, by simp, rfl, Lib.hid (fun i hi => by omega), HH, Below.refl _ _⟩
  case round =>
    obtain ⟨m, ys, hm, rfl, rfl, hy, HM, HO, hBr⟩ := hrel
    by_cases hlt : m < xs.length
    · have i1 : (m : Int) < xs.length := by omega
      have hf := HO.out.free m
      have hcell : wr.cell? ⟨g, m, none⟩ = some (.int .i64 (nth ys m)) := by
        rcases HO.out.shape with ⟨h', _⟩ | ⟨g', c', h', _, _, hc⟩
        · simp at h'
        · simp only [Value.slice.injEq, Option.some.injEq, Addr.mk.injEq, and_true, true_and] at h'
          obtain ⟨rfl, _⟩ := h'
          exact hc m (by omega)
      have hgr := (HO.out.lt g rfl).2
      have HS := Lib.hid (HO.out.store m (k + m))
      have HM' := Lib.hid (HM.out.step (show m < ys.length by omega))
      go_wp2
      go_roundw
      case rel => exact ⟨m + 1, ys.set m (k + m), by omega, by go_num, by go_num, by rw [List.length_set, hy], HM', Lib.hid HS.out.1, hBr.trans HS.out.2⟩
      case measure => simp [intOf]; omega
    · obtain rfl : m = xs.length := by omega
      go_wp2
      go_returns
      exact ⟨rfl, ys, hy, HM.out, HO.out, hBr⟩
set_option maxHeartbeats 1000000 in
theorem heldInt64S_c (A : Option Addr) (n c : Nat) (ys : List Int) (k : Int) (hyn : ys.length = n) (hk : 0 ≤ k) (hk' : k ≤ 1000000000) (hn : ys.length ≤ 1048576) (hm : Marked k ys ys.length) (w : World) (hr : RowI w A ys) : Calls Try.prog 9 #[.slice A n c, .int .i64 k] w fun e w' => e = .returned (.int .i64 (k + n)) ∧ w = w' := by
  subst hyn
  have HM := Lib.hid hm
  clear hm
  go_enter Try.func9, Try.ntmps9
  go_wp2
  go_loop [1, 5] (fun q i => ∃ m : Nat, m ≤ ys.length ∧ i = .int .i64 m ∧ q = .int .i64 (k + m)) (fun _ i => ys.length - (intOf i).toNat)
  case atStart => exact ⟨0, by omega, rfl, by simp⟩
  case round =>
    obtain ⟨m, hm, rfl, rfl⟩ := hrel
    by_cases hlt : m < ys.length
    · obtain ⟨b, off, rfl, hb, hc⟩ := hr.at_ hlt
      have i1 : (m : Int) < ys.length := by omega
      rw [HM.out m hlt] at hc
      go_wp2
      go_round
      case rel => exact ⟨m + 1, by omega, by go_num, by go_num⟩
      case measure => simp [intOf]; omega
    · obtain rfl : m = ys.length := by omega
      go_wp2
      go_ret
      exact ⟨rfl, rfl⟩
end Go.Proofs.Ytbdhelekmdpbiaa
