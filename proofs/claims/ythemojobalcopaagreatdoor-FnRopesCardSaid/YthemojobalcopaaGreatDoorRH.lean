/- ReadHour ReadRope ReadProfile. -/
import Derived.Test.YthemojobalcopaaGreatDoorRW
import Derived.Test.YthemojobalcopaaGreatDoorR
import Derived.Test.YthemojobalcopaaGreatDoorV
import Derived.Test.YthemojobalcopaaGreatDoorW
namespace Go.Proofs.YthemojobalcopaaGreatDoor
open Go.ChangeShapes Go.WideShapes Go.ChangeAt Go.RowKit Go.Shelf
set_option linter.unusedVariables false
set_option linter.unusedSimpArgs false

theorem fRead_no {l : List UInt8} (h : (fRead l).2 = false) : (fRead l).1 = [] := by
  unfold fRead at *
  split at h
  · cases h
  · rename_i h1
    rw [if_neg h1]
    split at h
    · cases h
    · rename_i h2
      rw [if_neg h2]
/-- A block of numbers. -/
def BoxL (b : Nat) (w : World) (zs : List Int) : Prop := b < w.heap.size ∧ (∀ i x, zs[i]? = some x → w.cell? ⟨b, i, none⟩ = some (.int .i64 x)) ∧ ∀ j, w.frozen? ⟨b, j, none⟩ = false
theorem frozen_below {b : Nat} {w w' : World} (h0 : b < w.heap.size) (hb : Below w.heap.size w w') (j : Nat) : w'.frozen? ⟨b, j, none⟩ = w.frozen? ⟨b, j, none⟩ := by
  unfold World.frozen?
  rw [hb.block b h0]
theorem BoxL.below {b : Nat} {w w' : World} {zs : List Int} (h : BoxL b w zs) (hb : Below w.heap.size w w') : BoxL b w' zs :=
  ⟨Nat.lt_of_lt_of_le h.1 hb.size, fun i x hi => (hb.cell (p := ⟨b, i, none⟩) h.1).trans (h.2.1 i x hi), fun j => (frozen_below h.1 hb j).trans (h.2.2 j)⟩
theorem BoxL.new3 (w : World) (t : TypeId) (a b c : Int) : BoxL w.heap.size (w.alloc (.cells #[.int .i64 a, .int .i64 b, .int .i64 c] t)) [a, b, c] := ⟨by simp, fun i x hi => by
  have : i < 3 := (List.getElem?_eq_some_iff.1 hi).1
  have : i = 0 ∨ i = 1 ∨ i = 2 := by omega
  rcases this with rfl | rfl | rfl <;> (simp at hi; subst hi; simp), fun j => by simp⟩
theorem BoxL.new4 (w : World) (t : TypeId) (a b c d : Int) : BoxL w.heap.size (w.alloc (.cells #[.int .i64 a, .int .i64 b, .int .i64 c, .int .i64 d] t)) [a, b, c, d] := ⟨by simp, fun i x hi => by
  have : i < 4 := (List.getElem?_eq_some_iff.1 hi).1
  have : i = 0 ∨ i = 1 ∨ i = 2 ∨ i = 3 := by omega
  rcases this with rfl | rfl | rfl | rfl <;> (simp at hi; subst hi; simp), fun j => by simp⟩
/-- The row of a list that a call owns, at its cells. -/
theorem OwnI.cells {e : TypeId} {w : World} {B : Nat} {v : Value} {xs : List Int} (h : OwnI e w B v xs) (h0 : 0 < xs.length) : ∃ g c, v = .slice (some ⟨g, 0, none⟩) xs.length c ∧ B ≤ g ∧ g < w.heap.size ∧ ∀ i x, xs[i]? = some x → w.cell? ⟨g, i, none⟩ = some (.int .i64 x) := by
  rcases h.shape with ⟨_, rfl⟩ | ⟨g, c, hv, hb, hg, hc⟩
  · simp at h0
  · refine ⟨g, c, hv, hb, hg, fun i x hi => ?_⟩
    have hi' := (List.getElem?_eq_some_iff.1 hi)
    rw [hc i hi'.1]
    obtain ⟨h1, h2⟩ := hi'
    unfold nth
    simp [hi]
def rdHour (l : List UInt8) : List Int × Bool := match (fRead l).1 with | [a, b, c] => if hourOk a b c then ([a, b, c], true) else ([0, 0, 0], false) | _ => ([0, 0, 0], false)
theorem rdHour_all {l : List UInt8} {a b c : Int} (h : (fRead l).1 = [a, b, c]) : rdHour l = if hourOk a b c then ([a, b, c], true) else ([0, 0, 0], false) := by unfold rdHour; rw [h]
theorem rdHour_else {l : List UInt8} (h : (fRead l).1.length ≠ 3) : rdHour l = ([0, 0, 0], false) := by
  unfold rdHour
  split
  · rename_i h1
    rw [h1] at h
    simp at h
  · rfl
theorem rdHour_is (l : List UInt8) : ∃ a b c q, rdHour l = ([a, b, c], q) := by
  unfold rdHour
  split
  · split
    · exact ⟨_, _, _, _, rfl⟩
    · exact ⟨_, _, _, _, rfl⟩
  · exact ⟨_, _, _, _, rfl⟩
def rdRope (l : List UInt8) : List Int × Bool := match (fRead l).1 with | [a, b, c, d] => if ropeOk a b c d then ([a, b, c, d], true) else ([0, 0, 0, 0], false) | _ => ([0, 0, 0, 0], false)
theorem rdRope_all {l : List UInt8} {a b c d : Int} (h : (fRead l).1 = [a, b, c, d]) : rdRope l = if ropeOk a b c d then ([a, b, c, d], true) else ([0, 0, 0, 0], false) := by unfold rdRope; rw [h]
theorem rdRope_else {l : List UInt8} (h : (fRead l).1.length ≠ 4) : rdRope l = ([0, 0, 0, 0], false) := by
  unfold rdRope
  split
  · rename_i h1
    rw [h1] at h
    simp at h
  · rfl
theorem rdRope_is (l : List UInt8) : ∃ a b c d q, rdRope l = ([a, b, c, d], q) := by
  unfold rdRope
  split
  · split
    · exact ⟨_, _, _, _, _, rfl⟩
    · exact ⟨_, _, _, _, _, rfl⟩
  · exact ⟨_, _, _, _, _, rfl⟩
set_option maxHeartbeats 2000000 in
theorem implReadRope_v (s : ByteArray) (hl : s.size ≤ 1048576) (a b c d : Int) (q : Bool) (h : rdRope s.data.toList = ([a, b, c, d], q)) (w : World) (hE : EnvL w) : Calls Tryz.prog 17 #[.string s] w fun e w' => e = .returned (.tuple #[.agg #[.int .i64 a, .int .i64 b, .int .i64 c, .int .i64 d], .bool q]) ∧ Below w.heap.size w w' := by
  have hB0 : Below w.heap.size w (w.alloc (.cells #[.int .i64 0, .int .i64 0, .int .i64 0, .int .i64 0] 25)) := (Below.refl _ _).alloc (Nat.le_refl _) _
  have BX := BoxL.new4 w 25 0 0 0 0
  have HRN := Lib.hid (readNumbers_c s hl 4 _ (hE.below hB0))
  have zz : (w.alloc (.cells #[.int .i64 0, .int .i64 0, .int .i64 0, .int .i64 0] 25)).heap.size = w.heap.size + 1 := by simp
  by_cases h3 : (fRead s.data.toList).1.length = 4
  · obtain ⟨x, y, z, t, hxyz⟩ : ∃ x y z t, (fRead s.data.toList).1 = [x, y, z, t] := by
      rcases hz : (fRead s.data.toList).1 with _ | ⟨x, _ | ⟨y, _ | ⟨z, _ | ⟨t, _ | ⟨e, r⟩⟩⟩⟩⟩ <;> rw [hz] at h3 <;> simp at h3
      exact ⟨x, y, z, t, rfl⟩
    rw [rdRope_all hxyz] at h
    rw [hxyz] at HRN
    have HH := Lib.hid h
    clear h h3 hxyz hE
    generalize hW : w.alloc (.cells #[.int .i64 0, .int .i64 0, .int .i64 0, .int .i64 0] 25) = W at hB0 BX HRN zz
    have HB0 := Lib.hid hB0
    have HX := Lib.hid BX
    clear hB0 BX
    go_enter Tryz.func17, Tryz.ntmps17
    go_wp2_with (go_at_call 36; (refine HRN.out.mono ?_); rintro e w1 ⟨v, rfl, hO, hb⟩; obtain ⟨g, c1, rfl, hg, hgl, hcell⟩ := hO.cells (by simp); have k0 := hcell 0 _ rfl; have k1 := hcell 1 _ rfl; have k2 := hcell 2 _ rfl; have k3 := hcell 3 _ rfl; have HB1 := Lib.hid (HB0.out.trans (hb.mono (by omega))); have HX1 := Lib.hid (HX.out.below hb); have z1 := hb.size; clear hO hcell hb)
    go_region
    have HB2 := Lib.hid ((HB1.out.alloc (by omega) (.cells #[.int .i64 x, .int .i64 y, .int .i64 z, .int .i64 t] 25)).drew)
    have HX2 := Lib.hid (HX1.out.below (((Below.refl w1.heap.size w1).alloc (Nat.le_refl _) (.cells #[.int .i64 x, .int .i64 y, .int .i64 z, .int .i64 t] 25)).drew))
    have HY2 := Lib.hid (show BoxL w1.heap.size ((w1.alloc (.cells #[.int .i64 x, .int .i64 y, .int .i64 z, .int .i64 t] 25)).drew) [x, y, z, t] from BoxL.new4 w1 25 x y z t)
    have z2 : ((w1.alloc (.cells #[.int .i64 x, .int .i64 y, .int .i64 z, .int .i64 t] 25)).drew).heap.size = w1.heap.size + 1 := by simp
    generalize (w1.alloc (.cells #[.int .i64 x, .int .i64 y, .int .i64 z, .int .i64 t] 25)).drew = w2 at HB2 HX2 HY2 z2
    obtain ⟨y00, y01, y02, y03⟩ : w2.cell? ⟨w1.heap.size, 0, none⟩ = some (.int .i64 x) ∧ w2.cell? ⟨w1.heap.size, 1, none⟩ = some (.int .i64 y) ∧ w2.cell? ⟨w1.heap.size, 2, none⟩ = some (.int .i64 z) ∧ w2.cell? ⟨w1.heap.size, 3, none⟩ = some (.int .i64 t) := ⟨HY2.out.2.1 0 _ rfl, HY2.out.2.1 1 _ rfl, HY2.out.2.1 2 _ rfl, HY2.out.2.1 3 _ rfl⟩
    cases hok : ropeOk x y z t
    all_goals
      have hh := HH.out
      rw [hok] at hh
      have HOK := Lib.hid hok
      clear hok
      injection hh with hh1 hh2
      subst hh2
      injection hh1 with e1 hh1
      injection hh1 with e2 hh1
      injection hh1 with e3 hh1
      injection hh1 with e4 hh1
      subst e1 e2 e3 e4
      clear HH hh1
      go_wp2_with (go_at_call 33; (refine (implValidRope_c x y z t _).mono ?_); rintro e w3 ⟨rfl, hb3⟩; rw [HOK.out]; have HB3 := Lib.hid (HB2.out.trans (hb3.mono (by omega))); have zz3 := hb3.size; obtain ⟨x3a, x3b, x3c⟩ := HX2.out.below hb3; obtain ⟨y3a, y3b, y3c⟩ := HY2.out.below hb3; have u0 := y3b 0 _ rfl; have u1 := y3b 1 _ rfl; have u2 := y3b 2 _ rfl; have u3 := y3b 3 _ rfl; have f0 := x3c 0; have f1 := x3c 1; have f2 := x3c 2; have f3 := x3c 3; have x0 := x3b 0 _ rfl; have x1 := x3b 1 _ rfl; have x2 := x3b 2 _ rfl; have x3 := x3b 3 _ rfl; clear hb3 y3b x3c y3c x3b)
      ((try simp only [Exit.inBlock, Exit.then]); first | (refine bodyPost_ret (by simp [results, Tryz.results17, go_sem, *]; try rfl) rfl ?_) | (obtain ⟨u0, q0⟩ : ∃ u, w'.cell? ⟨w.heap.size, 0, none⟩ = some u := ⟨_, by simp [*, go_sem]; rfl⟩; obtain ⟨u1, q1⟩ : ∃ u, w'.cell? ⟨w.heap.size, 1, none⟩ = some u := ⟨_, by simp [*, go_sem]; rfl⟩; obtain ⟨u2, q2⟩ : ∃ u, w'.cell? ⟨w.heap.size, 2, none⟩ = some u := ⟨_, by simp [*, go_sem]; rfl⟩; obtain ⟨u3, q3⟩ : ∃ u, w'.cell? ⟨w.heap.size, 3, none⟩ = some u := ⟨_, by simp [*, go_sem]; rfl⟩; refine bodyPost_ret (by simp [results, Tryz.results17, go_sem, q0, q1, q2, q3]; try rfl) rfl ?_))
      exact ⟨rfl, ((((HB3.out.setCell (Nat.le_refl _) _).setCell (Nat.le_refl _) _).setCell (Nat.le_refl _) _).setCell (Nat.le_refl _) _)⟩
  · rw [rdRope_else h3] at h
    have hd : decide (((fRead s.data.toList).1.length : Int) = 4) = false := by rw [decide_eq_false_iff_not]; omega
    rw [hd] at HRN
    generalize (fRead s.data.toList).1 = zs at HRN
    clear h3 hE hd
    injection h with hh1 hh2
    subst hh2
    injection hh1 with e1 hh1
    injection hh1 with e2 hh1
    injection hh1 with e3 hh1
    injection hh1 with e4 hh1
    subst e1 e2 e3 e4
    clear hh1
    generalize hW : w.alloc (.cells #[.int .i64 0, .int .i64 0, .int .i64 0, .int .i64 0] 25) = W at hB0 BX HRN zz
    have HB0 := Lib.hid hB0
    have HX := Lib.hid BX
    clear hB0 BX
    go_enter Tryz.func17, Tryz.ntmps17
    go_wp2_with (go_at_call 36; (refine HRN.out.mono ?_); rintro e w1 ⟨v, rfl, hO, hb⟩; obtain ⟨A1, c1, rfl, _⟩ := hO.slice; have HB1 := Lib.hid (HB0.out.trans (hb.mono (by omega))); obtain ⟨x3a, x3b, x3c⟩ := HX.out.below hb; have f0 := x3c 0; have f1 := x3c 1; have f2 := x3c 2; have f3 := x3c 3; have x0 := x3b 0 _ rfl; have x1 := x3b 1 _ rfl; have x2 := x3b 2 _ rfl; have x3 := x3b 3 _ rfl; have z1 := hb.size; clear hO hb x3b x3c)
    ((try simp only [Exit.inBlock, Exit.then]); first | (refine bodyPost_ret (by simp [results, Tryz.results17, go_sem, *]; try rfl) rfl ?_) | (obtain ⟨u0, q0⟩ : ∃ u, w'.cell? ⟨w.heap.size, 0, none⟩ = some u := ⟨_, by simp [*, go_sem]; rfl⟩; obtain ⟨u1, q1⟩ : ∃ u, w'.cell? ⟨w.heap.size, 1, none⟩ = some u := ⟨_, by simp [*, go_sem]; rfl⟩; obtain ⟨u2, q2⟩ : ∃ u, w'.cell? ⟨w.heap.size, 2, none⟩ = some u := ⟨_, by simp [*, go_sem]; rfl⟩; obtain ⟨u3, q3⟩ : ∃ u, w'.cell? ⟨w.heap.size, 3, none⟩ = some u := ⟨_, by simp [*, go_sem]; rfl⟩; refine bodyPost_ret (by simp [results, Tryz.results17, go_sem, q0, q1, q2, q3]; try rfl) rfl ?_))
    exact ⟨rfl, ((((HB1.out.setCell (Nat.le_refl _) _).setCell (Nat.le_refl _) _).setCell (Nat.le_refl _) _).setCell (Nat.le_refl _) _)⟩
def rdProfile (l : List UInt8) : List Int × Bool := match (fRead l).1 with | [a, b, c, d] => if profOk a b c d then ([a, b, c, d], true) else ([0, 0, 0, 0], false) | _ => ([0, 0, 0, 0], false)
theorem rdProfile_all {l : List UInt8} {a b c d : Int} (h : (fRead l).1 = [a, b, c, d]) : rdProfile l = if profOk a b c d then ([a, b, c, d], true) else ([0, 0, 0, 0], false) := by unfold rdProfile; rw [h]
theorem rdProfile_else {l : List UInt8} (h : (fRead l).1.length ≠ 4) : rdProfile l = ([0, 0, 0, 0], false) := by
  unfold rdProfile
  split
  · rename_i h1
    rw [h1] at h
    simp at h
  · rfl
theorem rdProfile_is (l : List UInt8) : ∃ a b c d q, rdProfile l = ([a, b, c, d], q) := by
  unfold rdProfile
  split
  · split
    · exact ⟨_, _, _, _, _, rfl⟩
    · exact ⟨_, _, _, _, _, rfl⟩
  · exact ⟨_, _, _, _, _, rfl⟩
end Go.Proofs.YthemojobalcopaaGreatDoor
