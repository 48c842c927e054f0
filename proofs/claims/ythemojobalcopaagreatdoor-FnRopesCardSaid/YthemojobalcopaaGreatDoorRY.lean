/- Lists read from texts: the program's side. -/
import Derived.Test.YthemojobalcopaaGreatDoorRX
import Derived.Shelf.Strings.SplitShaped
import Derived.Ground.NamesProg
namespace Go.Proofs.YthemojobalcopaaGreatDoor
open Go.ChangeShapes Go.WideShapes Go.ChangeAt Go.RowKit Go.Shelf
set_option linter.unusedVariables false
set_option linter.unusedSimpArgs false

theorem cutL_le {p : List UInt8} : ∀ {l : List UInt8}, p ∈ cutL l → p.length ≤ l.length
  | [], h => by simp [cutL] at h; simp [h]
  | b :: l, h => by
    obtain ⟨q, qs, e⟩ := cutL_ne l
    rw [cutL] at h
    split at h
    · rcases List.mem_cons.1 h with rfl | h
      · simp
      · have := cutL_le h
        simp
        omega
    · rw [e] at h
      simp only at h
      rcases List.mem_cons.1 h with rfl | h
      · have : q ∈ cutL l := by rw [e]; simp
        have := cutL_le this
        simp
        omega
      · have : p ∈ cutL l := by rw [e]; exact List.mem_cons_of_mem _ h
        have := cutL_le this
        simp
        omega
theorem cutL_len : ∀ l : List UInt8, (cutL l).length ≤ l.length + 1
  | [] => by simp [cutL]
  | b :: l => by
    have ih := cutL_len l
    obtain ⟨q, qs, e⟩ := cutL_ne l
    rw [cutL]
    split
    · simp; omega
    · rw [e] at ih ⊢
      simp at ih ⊢
      omega
/-- A text's list, as both sides give it: the numbers, and whether there is one. -/
def fRead (l : List UInt8) : List Int × Bool := if l = [45] then ([], true) else if listOk l then (listV l, true) else ([], false)
theorem rdNum_val (s : ByteArray) : (rdNum s).1 = valN s.data.toList := by
  unfold rdNum valN
  cases numO s.data.toList <;> rfl
theorem rdNum_ok (s : ByteArray) : ((rdNum s).2 && inB (rdNum s).1 (-1000000000000) 1000000000000) = okN s.data.toList := by
  unfold rdNum okN
  cases numO s.data.toList <;> simp
theorem valN_I64 (p : List UInt8) : I64 (valN p) := by
  unfold valN
  cases h : numO p with
  | none => simp [I64]
  | some n =>
    have := numO_some h
    unfold I64
    simp
    omega
theorem take_snoc {α : Type} {xs : List α} {k : Nat} {x : α} (h : xs[k]? = some x) : xs.take (k + 1) = xs.take k ++ [x] := by
  rw [List.take_add_one, h]
  rfl
def splitLay_ren : Go.Shelf.Ren := ⟨fun | 146 => 50 | 221 => 56 | 268 => 62 | 138 => 63 | 143 => 64 | 195 => 74 | 197 => 75 | 218 => 76 | 219 => 77 | 260 => 89 | 217 => 90 | 225 => 91 | 224 => 92 | 267 => 93 | 266 => 101 | 314 => 102 | n => n, fun | 9 => 9 | 31 => 65 | 3 => 3 | 4 => 4 | 0 => 0 | 105 => 101 | 21 => 21 | 5 => 5 | 46 => 68 | 119 => 125 | 139 => 128 | 138 => 127 | 146 => 129 | 51 => 114 | n => n, fun | 1 => 1 | 3 => 4 | 4 => 5 | n => n⟩
theorem splitLay : Go.Proofs.LaysM.n146 Tryz.prog splitLay_ren := {
  mixed := by kernel_rfl,
  f138 := Tryz.func63.trans (congrArg some (by kernel_rfl)),
  f143 := Tryz.func64.trans (congrArg some (by kernel_rfl)),
  f146 := Tryz.func50.trans (congrArg some (by kernel_rfl)),
  f195 := Tryz.func74.trans (congrArg some (by kernel_rfl)),
  f197 := Tryz.func75.trans (congrArg some (by kernel_rfl)),
  f217 := Tryz.func90.trans (congrArg some (by kernel_rfl)),
  f218 := Tryz.func76.trans (congrArg some (by kernel_rfl)),
  f219 := Tryz.func77.trans (congrArg some (by kernel_rfl)),
  f221 := Tryz.func56.trans (congrArg some (by kernel_rfl)),
  f224 := Tryz.func92.trans (congrArg some (by kernel_rfl)),
  f225 := Tryz.func91.trans (congrArg some (by kernel_rfl)),
  f260 := Tryz.func89.trans (congrArg some (by kernel_rfl)),
  f266 := Tryz.func101.trans (congrArg some (by kernel_rfl)),
  f267 := Tryz.func93.trans (congrArg some (by kernel_rfl)),
  f268 := Tryz.func62.trans (congrArg some (by kernel_rfl)),
  f314 := Tryz.func102.trans (congrArg some (by kernel_rfl)),
  t0 := Tryz.underlying0,
  a0 := Tryz.isAgg0,
  z0 := Tryz.sizeOf0,
  v0 := Tryz.zeroValue0,
  t3 := Tryz.underlying3,
  a3 := Tryz.isAgg3,
  z3 := Tryz.sizeOf3,
  v3 := Tryz.zeroValue3,
  t4 := Tryz.underlying4,
  a4 := Tryz.isAgg4,
  z4 := Tryz.sizeOf4,
  v4 := Tryz.zeroValue4,
  t5 := Tryz.underlying5,
  a5 := Tryz.isAgg5,
  z5 := Tryz.sizeOf5,
  v5 := Tryz.zeroValue5,
  t9 := Tryz.underlying9,
  a9 := Tryz.isAgg9,
  z9 := Tryz.sizeOf9,
  v9 := Tryz.zeroValue9,
  t21 := Tryz.underlying21,
  a21 := Tryz.isAgg21,
  z21 := Tryz.sizeOf21,
  v21 := Tryz.zeroValue21,
  t31 := Tryz.underlying65,
  a31 := Tryz.isAgg65,
  z31 := Tryz.sizeOf65,
  v31 := Tryz.zeroValue65,
  t46 := Tryz.underlying68,
  a46 := Tryz.isAgg68,
  z46 := Tryz.sizeOf68,
  v46 := Tryz.zeroValue68,
  t51 := Tryz.underlying114,
  a51 := Tryz.isAgg114,
  z51 := Tryz.sizeOf114,
  v51 := Tryz.zeroValue114,
  t105 := Tryz.underlying101,
  a105 := Tryz.isAgg101,
  z105 := Tryz.sizeOf101,
  v105 := Tryz.zeroValue101,
  t119 := Tryz.underlying125,
  a119 := Tryz.isAgg125,
  z119 := Tryz.sizeOf125,
  t138 := Tryz.underlying127,
  a138 := Tryz.isAgg127,
  z138 := Tryz.sizeOf127,
  v138 := Tryz.zeroValue127,
  t139 := Tryz.underlying128,
  a139 := Tryz.isAgg128,
  z139 := Tryz.sizeOf128,
  v139 := Tryz.zeroValue128,
  t146 := Tryz.underlying129,
  a146 := Tryz.isAgg129,
  z146 := Tryz.sizeOf129,
  v146 := Tryz.zeroValue129,
  g1 := by kernel_rfl,
  g3 := by kernel_rfl,
  g4 := by kernel_rfl,
  i0 := by kernel_rfl,
  i3 := by kernel_rfl,
  i4 := by kernel_rfl,
  i5 := by kernel_rfl,
  i9 := by kernel_rfl,
  i21 := by kernel_rfl,
  i31 := by kernel_rfl,
  i46 := by kernel_rfl,
  i51 := by kernel_rfl,
  i105 := by kernel_rfl,
  i138 := by kernel_rfl,
  i139 := by kernel_rfl,
  i146 := by kernel_rfl,
  m1 := by kernel_rfl,
  s1_3 := fun w h => Go.Proofs.cell_of_shapedOpen_int (zero := #[.int .i64 0]) (t := 3) h (of_decide_eq_true (by kernel_rfl)) (by kernel_rfl) rfl (by kernel_rfl) (by kernel_rfl) Tryz.underlying3,
  m3 := by kernel_rfl,
  m4 := by kernel_rfl
}

/-- What a read of a list finds. -/
def EnvL (w : World) : Prop := Env Tryz.prog w ∧ ∃ m, w.cell? ⟨splitLay_ren.g 1, 0, none⟩ = some (.int .i64 m)
theorem EnvL.below {w w' : World} (h : EnvL w) (hb : Below w.heap.size w w') : EnvL w' := by
  obtain ⟨h1, m, h2⟩ := h
  exact ⟨h1.below hb, m, (hb.cell (p := ⟨splitLay_ren.g 1, 0, none⟩) (lt_of_cell h2)).trans h2⟩
theorem split_c (s : ByteArray) (hl : s.size ≤ 1048576) (w : World) (hE : EnvL w) : Calls Tryz.prog 50 #[.string s, .string ⟨#[44]⟩] w fun e w' => ∃ ps : List ByteArray, ps.map (·.data.toList) = cutL s.data.toList ∧ e = .returned (.slice (some ⟨w.heap.size, 0, none⟩) ps.length ps.length) ∧ (∀ (j : Nat) x, ps[j]? = some x → w'.cell? ⟨w.heap.size, j, none⟩ = some (.string x)) ∧ w.heap.size < w'.heap.size ∧ Below w.heap.size w w' := by
  obtain ⟨_, m, hm⟩ := hE
  have hp := Lib.splitB_data ⟨#[44]⟩ 0 (Lib.countB s ⟨#[44]⟩) s
  have hlen := Lib.splitB_all ⟨#[44]⟩ (by decide) 0 _ s rfl
  have hc : (Lib.splitB ⟨#[44]⟩ 0 (Lib.countB s ⟨#[44]⟩) s).map (·.data.toList) = cutL s.data.toList := by
    rw [hp]
    exact split_cutL s.data.toList.length s.data.toList (Nat.le_refl _)
  refine (Any.strings_Split { splitLay with } splitLay.i9 s ⟨#[44]⟩ m w (by omega) hm (by decide)).mono ?_
  rintro e w' ⟨rfl, rfl⟩
  refine ⟨_, hc, by rw [hlen], fun j x hx => ?_, by simp, (Below.refl _ _).alloc (Nat.le_refl _) _⟩
  rw [World.cell?_alloc_new, List.getElem?_toArray, List.getElem?_map, hx]
  rfl
set_option maxHeartbeats 2000000 in
/-- The text of a list, whatever its numbers. -/
theorem listText_g (A : Option Addr) (n c : Nat) (xs : List Int) (hln : xs.length = n) (hn : n ≤ 1048577) (h0 : 0 < n) (w : World) (hr : RowI w A xs) (ht : Tab Tryz.prog w) : Calls Tryz.prog 37 #[.slice A n c] w fun e w' => e = .returned (.string ⟨(txtL xs).toArray⟩) ∧ Below w.heap.size w w' := by
  have hne : xs ≠ [] := fun h => by rw [h] at hln; simp at hln; omega
  by_cases h64 : 64 < n
  · have HT := Lib.hid (show txtL xs = [] by unfold txtL; rw [if_pos (.inl (by omega))])
    have i1 : (64 : Int) < n := by omega
    rw [HT.out]
    go_enter Tryz.func37, Tryz.ntmps37
    go_wp2
    go_returns
    exact ⟨by first | rfl | simp, Below.refl _ _⟩
  · have h64' : ¬ (64 : Int) < n := by omega
    cases ha : xs.any notVal
    · have hv : ∀ k, k < xs.length → -1000000000000 ≤ nth xs k ∧ nth xs k ≤ 1000000000000 := fun k hk => by
        have h1 := List.any_eq_false.1 ha (nth xs k) (nth_mem hk)
        simp only [notVal, Bool.not_eq_true', Bool.not_eq_false] at h1
        exact inB_true (by simpa using h1)
      have HT := Lib.hid (show txtL xs = lstTo xs xs.length by
        unfold txtL
        rw [if_neg, if_neg hne, ← join_wTo xs xs.length]
        · congr 1
          have : ∀ k, k ≤ xs.length → (wTo xs k).map (·.data.toList) = (xs.take k).map Lib.itoa := by
            intro k
            induction k with
            | zero => intro _; simp [wTo]
            | succ k ih =>
              intro hk
              have e : xs[k]? = some (nth xs k) := by rw [nth, List.getD_eq_getElem?_getD, List.getElem?_eq_getElem (by omega)]; rfl
              rw [wTo, List.map_append, ih (by omega), take_snoc e, List.map_append]
              rfl
          rw [this _ (Nat.le_refl _), List.take_length]
        · rintro (h | h)
          · omega
          · have : xs.any (fun n => !inB n (-1000000000000) 1000000000000) = xs.any notVal := rfl
            rw [this, ha] at h
            cases h)
      rw [HT.out]
      exact listText_c A n c xs hln (by omega) (by omega) hv w hr ht
    · have HT := Lib.hid (show txtL xs = [] by unfold txtL; rw [if_pos (.inr ha)])
      subst hln
      have HC := Lib.hid (containsFuncLt_c A c xs (by omega) w hr)
      rw [ha] at HC
      rw [HT.out]
      go_enter Tryz.func37, Tryz.ntmps37
      go_wp2_with (go_at_call 40; (refine HC.out.mono ?_); rintro e w' ⟨rfl, rfl⟩)
      go_returns
      exact ⟨by first | rfl | simp, Below.refl _ _⟩
set_option maxRecDepth 100000 in
set_option maxHeartbeats 4000000 in
theorem implReadList_c (s : ByteArray) (hl : s.size ≤ 1048576) (w : World) (hE : EnvL w) : Calls Tryz.prog 44 #[.string s] w fun e w' => ∃ v, e = .returned (.tuple #[v, .bool (fRead s.data.toList).2]) ∧ OwnI 2 w' w.heap.size v (fRead s.data.toList).1 ∧ Below w.heap.size w w' := by
  have HE := Lib.hid hE
  by_cases hm : s.data.toList = [45]
  · have hs : s = ⟨#[45]⟩ := by
      apply ByteArray.ext
      apply Array.toList_inj.1
      exact hm
    have HF := Lib.hid (show fRead s.data.toList = ([], true) by unfold fRead; rw [if_pos hm])
    rw [HF.out]
    subst hs
    go_enter Tryz.func44, Tryz.ntmps44
    go_wp2
    go_returns
    exact ⟨.slice none 0 0, by simp, OwnI.nil _ _ _, Below.refl _ _⟩
  · have hs : ¬ s = ⟨#[45]⟩ := fun h => hm (by rw [h])
    have hs2 : (s.toList == [45]) = false := by
      rw [ByteArray.toList_eq, beq_eq_false_iff_ne]
      exact hm
    obtain ⟨L, hL⟩ : ∃ L, s.data.toList = L := ⟨_, rfl⟩
    have hlL : L.length ≤ 1048576 := by rw [← hL, ← size_len]; exact hl
    have HF := Lib.hid (show fRead L = if listOk L then (listV L, true) else ([], false) by unfold fRead; rw [if_neg (by rw [← hL]; exact hm)])
    rw [hL]
    have HTX := Lib.hid (txt_listOk L)
    go_enter Tryz.func44, Tryz.ntmps44
    go_wp2_with (go_at_call 50; (refine (split_c s hl _ HE.out).mono ?_); rintro e w1 ⟨ps, hps, rfl, hcells, hlt1, hb1⟩)
    rw [hL] at hps
    have hpl : ps.length = (cutL L).length := by rw [← hps, List.length_map]
    have hcl := cutL_len L
    obtain ⟨p0, qs0, hne⟩ := cutL_ne L
    have hp0 : 0 < ps.length := by rw [hpl, hne]; simp
    have HV := Lib.hid (show ps.map (fun p => (rdNum p).1) = listV L by
      unfold listV
      rw [← hps, List.map_map]
      exact List.map_congr_left fun p _ => rdNum_val p)
    have HPS := Lib.hid hps
    have hpl2 : ps.length ≤ L.length + 1 := by omega
    clear hpl hcl hne
    have HCE := Lib.hid hcells
    have z1 := hb1.size
    clear hps hcells
    go_loopw [4, 14] (fun v i wr => ∃ k : Nat, k ≤ ps.length ∧ i = .int .i64 k ∧ Hid (OwnI 2 wr w1.heap.size v ((ps.take k).map fun p => (rdNum p).1)) ∧ Below w1.heap.size w1 wr) (fun _ i _ => ps.length - (intOf i).toNat)
    case atStart => exact ⟨0, by omega, rfl, Lib.hid (OwnI.nil _ _ _), Below.refl _ _⟩
    case round =>
      obtain ⟨k, hk, rfl, HO, hBr⟩ := hrel
      have hsr := hBr.size
      have hkl : ((ps.take k).map fun p => (rdNum p).1).length = k := by rw [List.length_map, List.length_take]; omega
      have hEr := HE.out.below (hb1.trans (hBr.mono z1))
      by_cases hlt : k < ps.length
      · have i1 : (k : Int) < ps.length := by omega
        obtain ⟨p, hp⟩ : ∃ p, ps[k]? = some p := ⟨_, List.getElem?_eq_getElem hlt⟩
        have c1 : wr.cell? ⟨w.heap.size, k, none⟩ = some (.string p) := (hBr.cell (p := ⟨w.heap.size, k, none⟩) hlt1).trans (HCE.out k p hp)
        have hwl : w.heap.size < wr.heap.size := by omega
        have hpsz : p.size ≤ 1048576 := by
          have h1 : p.data.toList ∈ cutL L := by rw [← HPS.out]; exact List.mem_map.2 ⟨p, List.mem_of_getElem? hp, rfl⟩
          have := cutL_le h1
          rw [size_len]
          omega
        have HN := Lib.hid (show (ps.take (k + 1)).map (fun p => (rdNum p).1) = (ps.take k).map (fun p => (rdNum p).1) ++ [(rdNum p).1] by rw [take_snoc hp, List.map_append]; rfl)
        go_wp2_with (first
          | (at_builtin; refine wpList_push rfl _ _ 30 rfl Tryz.underlying30 int64_info _ rfl HO1.out rfl rfl (by omega) (by omega) ?_; intro v' w3 hO' hB'; have HO' := Lib.hid hO'; clear hO')
          | (go_at_call 51; (refine (readDecimal_c p hpsz _ hEr.1).mono ?_); rintro e wc ⟨rfl, hc⟩; have HO1 := Lib.hid (HO.out.below hc); have hsc := hc.size))
        go_roundw
        case rel => exact ⟨k + 1, by omega, by go_num, Lib.hid (by rw [HN.out]; exact HO'.out), (hBr.trans (hc.mono hsr)).trans hB'⟩
        case measure => simp [intOf]; omega
      · obtain rfl : k = ps.length := by omega
        have hO2 := HO.out
        rw [List.take_length, HV.out] at hO2
        have hll : (listV L).length = ps.length := by rw [← HV.out, List.length_map]
        obtain ⟨A3, c3, hve, hR3⟩ := hO2.slice
        rw [hll] at hve
        subst hve
        have HO2 := Lib.hid hO2
        have HR3 := Lib.hid hR3
        have hLT := Lib.hid (fun (W : World) (hW : Tab Tryz.prog W) (hRW : RowI W A3 (listV L)) => listText_g A3 ps.length c3 (listV L) hll (by omega) (by omega) W hRW hW)
        clear hO2 hR3 hll
        cases hok : listOk L
        · have hne2 : ¬ (⟨(txtL (listV L)).toArray⟩ : ByteArray) = s := fun h => by
            have h1 : txtL (listV L) = L := (show txtL (listV L) = s.data.toList from congrArg (fun b : ByteArray => b.data.toList) h).trans hL
            rw [HTX.out.1 h1] at hok
            cases hok
          have HLT := hLT.out
          generalize (⟨(txtL (listV L)).toArray⟩ : ByteArray) = dd at hne2 HLT
          have hne3 : (dd.toList == s.toList) = false := by rw [beq_eq_false_iff_ne]; exact fun h => hne2 (toList_inj h)
          have HLT := Lib.hid HLT
          clear hLT
          rw [hok, if_neg (by simp)] at HF
          go_wp2_with (go_at_call 37; (refine (HLT.out _ hEr.1.tab HR3.out).mono ?_); rintro e w4 ⟨rfl, hb4⟩)
          go_returns
          exact ⟨.slice none 0 0, by rw [HF.out]; simp, by rw [HF.out]; exact OwnI.nil _ _ _, (hb1.trans (hBr.mono z1)).trans (hb4.mono (by omega))⟩
        · have hee : (⟨(txtL (listV L)).toArray⟩ : ByteArray) = s := by
            apply ByteArray.ext
            apply Array.toList_inj.1
            show txtL (listV L) = s.data.toList
            rw [HTX.out.2 hok, hL]
          have HLT := hLT.out
          rw [hee] at HLT
          have HLT := Lib.hid HLT
          clear hLT
          rw [hok, if_pos rfl] at HF
          go_wp2_with (go_at_call 37; (refine (HLT.out _ hEr.1.tab HR3.out).mono ?_); rintro e w4 ⟨rfl, hb4⟩)
          go_returns
          exact ⟨.slice A3 ps.length c3, by rw [HF.out]; simp, by rw [HF.out]; exact (HO2.out.below hb4).mono z1, (hb1.trans (hBr.mono z1)).trans (hb4.mono (by omega))⟩
theorem readNumbers_c (s : ByteArray) (hl : s.size ≤ 1048576) (k : Int) (w : World) (hE : EnvL w) : Calls Tryz.prog 36 #[.string s, .int .i64 k] w fun e w' => ∃ v, e = .returned (.tuple #[v, .bool (decide (((fRead s.data.toList).1.length : Int) = k))]) ∧ OwnI 2 w' w.heap.size v (fRead s.data.toList).1 ∧ Below w.heap.size w w' := by
  go_enter Tryz.func36, Tryz.ntmps36
  go_wp2_with (go_at_call 44; (refine (implReadList_c s hl _ hE).mono ?_); rintro e w1 ⟨v, rfl, hO, hb⟩; obtain ⟨A1, c1, rfl, _⟩ := hO.slice; have HO := Lib.hid hO; clear hO)
  go_returns
  exact ⟨_, by simp; rfl, HO.out, hb⟩
end Go.Proofs.YthemojobalcopaaGreatDoor
