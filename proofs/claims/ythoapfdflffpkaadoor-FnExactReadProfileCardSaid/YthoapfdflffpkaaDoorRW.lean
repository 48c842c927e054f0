/- Texts cut at commas and lists read: the reference's side. -/
import Derived.Test.YthoapfdflffpkaaDoorRZ
namespace Go.Proofs.YthoapfdflffpkaaDoor
open Go.ChangeShapes Go.WideShapes Go.ChangeAt Go.RowKit Go.Shelf
set_option linter.unusedVariables false
set_option linter.unusedSimpArgs false

theorem drop_at {L : List UInt8} {i : Nat} {c : UInt8} (h : L[i]? = some c) : L.drop i = c :: L.drop (i + 1) := by
  rw [List.drop_eq_getElem_cons (List.getElem?_eq_some_iff.1 h).1, (List.getElem?_eq_some_iff.1 h).2]
theorem cut_step {L : List UInt8} {b i : Nat} (hb : b ≤ i) (h : L[i]? = some 44) (hn : 44 ∉ (L.drop b).take (i - b)) : cutL (L.drop b) = ((L.drop b).take (i - b)) :: cutL (L.drop (i + 1)) := by
  have e : L.drop b = (L.drop b).take (i - b) ++ 44 :: L.drop (i + 1) := by
    have h1 := List.take_append_drop (i - b) (L.drop b)
    rw [List.drop_drop, show b + (i - b) = i by omega, drop_at h] at h1
    exact h1.symm
  have h2 := cutL_app (L.drop (i + 1)) hn
  rw [← e] at h2
  exact h2
theorem no_step {L : List UInt8} {b i : Nat} {c : UInt8} (hb : b ≤ i) (h : L[i]? = some c) (hc : c ≠ 44) (hn : 44 ∉ (L.drop b).take (i - b)) : 44 ∉ (L.drop b).take (i + 1 - b) := by
  have e : (L.drop b)[i - b]? = some c := by rw [List.getElem?_drop, show b + (i - b) = i by omega]; exact h
  rw [show i + 1 - b = i - b + 1 by omega, take_snoc e, List.mem_append]
  rintro (h | h)
  · exact hn h
  · simp at h
    exact hc h.symm
set_option maxRecDepth 8000 in
set_option maxHeartbeats 4000000 in
theorem specSplit_c (s : ByteArray) (hl : s.size ≤ 1048576) (w : World) : Calls Tryd.prog 72 #[.string s, .int .u8 44] w fun e w' => ∃ (v : Value) (ps : List ByteArray), ps.map (·.data.toList) = cutL s.data.toList ∧ e = .returned v ∧ w'.ownsRow w.heap.size 9 1 v ps.length (ps.map Value.string) ∧ Below w.heap.size w w' := by
  have hsz := size_len s
  have HI := Lib.hid (fun (i : Nat) (c : UInt8) (h : s.data.toList[i]? = some c) => idx_at (P := Tryd.prog) 9 Tryd.underlying9 s i c h)
  have HXD := Lib.hid (fun (a b : Nat) => Lib.extract_data s a b)
  have HXE := Lib.hid (fun (a : Nat) => Lib.extract_to_end s a)
  obtain ⟨L, hL⟩ : ∃ L, s.data.toList = L := ⟨_, rfl⟩
  rw [hL] at hsz HI HXD HXE
  have HLL := Lib.hid hL
  obtain ⟨hz1, hz2⟩ : s.size ≤ L.length ∧ L.length ≤ s.size := by omega
  clear hsz hL
  have HB0 : Hid (Below w.heap.size w (w.alloc (.cells #[] 9))) := Lib.hid ((Below.refl w.heap.size w).alloc (Nat.le_refl _) (.cells #[] 9))
  have HO0 : Hid ((w.alloc (.cells #[] 9)).ownsRow w.heap.size 9 1 (.slice (some ⟨w.heap.size, 0, none⟩) 0 0) 0 []) := Lib.hid (World.ownsRow_lit w #[] 0 (Nat.le_refl _) (by simp [maxLen]) rfl)
  go_enter Tryd.func72, Tryd.ntmps72
  go_wp2
  go_loopw [5, 6, 7] (fun v bb i wr => ∃ (k b : Nat) (ps : List ByteArray), b ≤ k ∧ k ≤ L.length ∧ i = .int .i64 (k : Int) ∧ bb = .int .i64 (b : Int) ∧ ps.length ≤ b ∧ Hid (cutL L = ps.map (·.data.toList) ++ cutL (L.drop b)) ∧ Hid (44 ∉ (L.drop b).take (k - b)) ∧ Hid (wr.ownsRow w.heap.size 9 1 v ps.length (ps.map Value.string)) ∧ Hid (Below w.heap.size w wr)) (fun _ _ i _ => s.size - (intOf i).toNat)
  case atStart => exact ⟨0, 0, [], by omega, by omega, rfl, rfl, by simp, Lib.hid (by simp), Lib.hid (by simp), HO0, HB0⟩
  case round =>
    obtain ⟨k, b, ps, hbk, hk, rfl, rfl, hpb, HC, HN, HO, HB⟩ := hrel
    clear HO0 HB0
    have hsr := HB.out.size
    by_cases hlt : k < L.length
    · obtain ⟨c, hc⟩ : ∃ c, L[k]? = some c := ⟨_, List.getElem?_eq_getElem hlt⟩
      have ix := HI.out k c hc k rfl
      have l1 : (k : Int) < s.size := by omega
      have l1n : k < s.size := by omega
      by_cases hc44 : c = 44
      · subst hc44
        have ix' : ∀ w : World, (Instr.index 9 (.string s) (.int .i64 (k : Int))).run Tryd.prog w = .ok (.int .u8 44) w := ix
        clear ix
        have b1 : (b : Int) ≤ k := by omega
        have b2 : (k : Int) ≤ s.size := by omega
        have hslx : ∀ wx : World, (Instr.slice 9 (.string s) (some (.int .i64 (b : Int))) (some (.int .i64 (k : Int))) none).run Tryd.prog wx = .ok (.string (s.extract b k)) wx := fun wx => by rw [run_slice_string (P := Tryd.prog) (w := wx) 9 s .i64 .i64 _ _ Tryd.underlying9 (by omega) b1 b2]; rfl
        have HST := Lib.hid (cut_step hbk hc HN.out)
        have HE : Hid ((ps ++ [s.extract b k]).map (·.data.toList) = ps.map (·.data.toList) ++ [(L.drop b).take (k - b)]) := Lib.hid (by rw [List.map_append, List.map_singleton, HXD.out])
        have HP : Hid ((ps ++ [s.extract b k]).map Value.string = ps.map Value.string ++ [.string (s.extract b k)] ∧ (ps ++ [s.extract b k]).length = ps.length + 1) := Lib.hid ⟨by rw [List.map_append, List.map_singleton], by simp⟩
        clear hc
        go_wp2_with (at_builtin; refine wpList_pushV rfl _ _ 91 rfl Tryd.underlying91 string_info rfl (by decide) _ rfl HO.out rfl rfl rfl (by omega) (by omega) ?_; intro v' w3 hO' hB'; have HO' := Lib.hid hO'; have HB' := Lib.hid hB'; clear hO' hB')
        go_roundw
        case rel => exact ⟨k + 1, k + 1, ps ++ [s.extract b k], by omega, by omega, by go_num, by go_num, by rw [HP.out.2]; omega, Lib.hid (by rw [HE.out, HC.out, HST.out, List.append_assoc]; rfl), Lib.hid (by simp), Lib.hid (by rw [HP.out.1, HP.out.2]; exact HO'.out), Lib.hid (HB.out.trans HB'.out)⟩
        case measure => simp [intOf]; omega
      · have hc256 := c.toNat_lt
        have q0 : ¬ (c.toNat : Int) = 44 := u8_ne (n := 44) (by omega) hc44
        have HN2 := Lib.hid (no_step hbk hc hc44 HN.out)
        clear hc hc44
        go_wp2
        go_roundw
        case rel => exact ⟨k + 1, b, ps, by omega, by omega, by go_num, rfl, hpb, HC, HN2, HO, HB⟩
        case measure => simp [intOf]; omega
    · obtain rfl : k = L.length := by omega
      have l1 : ¬ (L.length : Int) < s.size := by omega
      have b1 : (b : Int) ≤ s.size := by omega
      have hslx : ∀ wx : World, (Instr.slice 9 (.string s) (some (.int .i64 (b : Int))) none none).run Tryd.prog wx = .ok (.string (s.extract b s.size)) wx := fun wx => by rw [run_slice_string_l (P := Tryd.prog) (w := wx) (t := 9) (s := s) (ht := Tryd.underlying9) (kl := .i64) (l := (b : Int)) (h0 := by omega) (h1 := b1)]; rfl
      have HP : Hid ((ps ++ [s.extract b s.size]).map Value.string = ps.map Value.string ++ [.string (s.extract b s.size)] ∧ (ps ++ [s.extract b s.size]).length = ps.length + 1) := Lib.hid ⟨by rw [List.map_append, List.map_singleton], by simp⟩
      have HF : Hid ((ps ++ [s.extract b s.size]).map (·.data.toList) = cutL s.data.toList) := Lib.hid (by
        have h1 := HN.out
        rw [List.take_of_length_le (by rw [List.length_drop]; omega)] at h1
        rw [HLL.out, HC.out, cutL_one h1, List.map_append, List.map_singleton, HXE.out])
      go_wp2_with (at_builtin; refine wpList_pushV rfl _ _ 91 rfl Tryd.underlying91 string_info rfl (by decide) _ rfl HO.out rfl rfl rfl (by omega) (by omega) ?_; intro v' w3 hO' hB'; have HO' := Lib.hid hO'; have HB' := Lib.hid hB'; clear hO' hB')
      go_returns
      exact ⟨v', ps ++ [s.extract b s.size], HF.out, rfl, by rw [HP.out.1, HP.out.2]; exact HO'.out, HB.out.trans HB'.out⟩
/-- The pieces as a row with cells. -/
theorem specSplit_r (s : ByteArray) (hl : s.size ≤ 1048576) (w : World) : Calls Tryd.prog 72 #[.string s, .int .u8 44] w fun e w' => ∃ (g c : Nat) (ps : List ByteArray), ps.map (·.data.toList) = cutL s.data.toList ∧ 0 < ps.length ∧ e = .returned (.slice (some ⟨g, 0, none⟩) ps.length c) ∧ w.heap.size ≤ g ∧ g < w'.heap.size ∧ (∀ (i : Nat) (p : ByteArray), ps[i]? = some p → w'.cell? ⟨g, i, none⟩ = some (.string p)) ∧ Below w.heap.size w w' := by
  refine (specSplit_c s hl w).mono ?_
  rintro e w' ⟨v, ps, hps, rfl, hO, hb⟩
  have h0 : 0 < ps.length := by
    obtain ⟨p0, qs0, hne⟩ := cutL_ne s.data.toList
    rw [hne] at hps
    rcases ps with _ | ⟨x, xs⟩
    · cases hps
    · simp
  obtain ⟨g, c, rfl, hg, hgl, hgc, hcell⟩ := own_shape_pos hO h0
  refine ⟨g, c, ps, hps, h0, rfl, hg, hgl, fun i p hp => ?_, hb⟩
  rw [hcell i (List.getElem?_eq_some_iff.1 hp).1, List.getElem?_map, hp]
  rfl
set_option maxRecDepth 8000 in
set_option maxHeartbeats 4000000 in
theorem specReadList_c (s : ByteArray) (hl : s.size ≤ 1048576) (w : World) : Calls Tryd.prog 50 #[.string s] w fun e w' => ∃ v, e = .returned (.tuple #[v, .bool (fRead s.data.toList).2]) ∧ OwnI 2 w' w.heap.size v (fRead s.data.toList).1 ∧ Below w.heap.size w w' := by
  by_cases hm : s.data.toList = [45]
  · have hs : s = ⟨#[45]⟩ := by
      apply ByteArray.ext
      apply Array.toList_inj.1
      exact hm
    have HF := Lib.hid (show fRead s.data.toList = ([], true) by unfold fRead; rw [if_pos hm])
    rw [HF.out]
    subst hs
    go_enter Tryd.func50, Tryd.ntmps50
    go_wp2
    go_returns
    exact ⟨_, rfl, OwnI.lit _ _ _ (Nat.le_refl _), (Below.refl _ _).alloc (Nat.le_refl _) _⟩
  · have hs : ¬ s = ⟨#[45]⟩ := fun h => hm (by rw [h])
    have hs2 : (s.toList == [45]) = false := by
      rw [ByteArray.toList_eq, beq_eq_false_iff_ne]
      exact hm
    obtain ⟨L, hL⟩ : ∃ L, s.data.toList = L := ⟨_, rfl⟩
    have hlL : L.length ≤ 1048576 := by rw [← hL, ← size_len]; exact hl
    have HF := Lib.hid (show fRead L = if listOk L then (listV L, true) else ([], false) by unfold fRead; rw [if_neg (by rw [← hL]; exact hm)])
    have NO : Hid (listOk L = false → fRead L = ([], false)) := Lib.hid (fun h => by rw [HF.out, h]; rfl)
    have YES : Hid (listOk L = true → fRead L = (listV L, true)) := Lib.hid (fun h => by rw [HF.out, h]; rfl)
    have HL := Lib.hid hL
    rw [hL]
    clear hm HF hL
    go_enter Tryd.func50, Tryd.ntmps50
    go_wp2_with (go_at_call 72; (refine (specSplit_r s hl _).mono ?_); rintro e w1 ⟨g, c1, ps, hps, h0, rfl, hg, hgl, hcell, hb1⟩; have HPS := Lib.hid hps; have HCE := Lib.hid hcell; have HB1 := Lib.hid hb1; have z1 := hb1.size; clear hps hcell hb1)
    · rename_i h64
      have HPS := HPS.out
      rw [HL.out] at HPS
      have HN := Lib.hid (NO.out (by
        unfold listOk
        have : ¬ (cutL L).length ≤ 64 := by rw [← HPS, List.length_map]; omega
        simp [this]))
      go_returns
      exact ⟨.slice none 0 0, by simp [HN.out], by rw [HN.out]; exact OwnI.nil _ _ _, HB1.out⟩
    · rename_i h64
      have hps := HPS.out
      rw [HL.out] at hps
      have HP2 := Lib.hid hps
      have HV := Lib.hid (show ps.map (fun p => (rdNum p).1) = listV L by
        unfold listV
        rw [← hps, List.map_map]
        exact List.map_congr_left fun p _ => rdNum_val p)
      have HC64 := Lib.hid (show (cutL L).length ≤ 64 by rw [← hps, List.length_map]; omega)
      clear hps HPS
      have HB2 : Hid (Below w.heap.size w (w1.alloc (.cells #[] 2))) := Lib.hid (HB1.out.alloc (by omega) (.cells #[] 2))
      have HB3 : Hid (Below w1.heap.size w1 (w1.alloc (.cells #[] 2))) := Lib.hid ((Below.refl _ _).alloc (Nat.le_refl _) (.cells #[] 2))
      have HO0 : Hid (OwnI 2 (w1.alloc (.cells #[] 2)) w1.heap.size (.slice (some ⟨w1.heap.size, 0, none⟩) 0 0) []) := Lib.hid (OwnI.lit _ _ _ (Nat.le_refl _))
      go_loopw [5, 6] (fun v i wr => ∃ k : Nat, k ≤ ps.length ∧ i = .int .i64 k ∧ Hid (OwnI 2 wr w1.heap.size v ((ps.take k).map fun p => (rdNum p).1)) ∧ Hid (((ps.take k).map (·.data.toList)).all okN = true) ∧ Hid (Below w1.heap.size w1 wr)) (fun _ i _ => ps.length - (intOf i).toNat)
      case atStart => exact ⟨0, by omega, rfl, HO0, Lib.hid rfl, HB3⟩
      case round =>
        obtain ⟨k, hk, rfl, HO, HA, HB⟩ := hrel
        clear HO0 HB3 HB2
        have hsr := HB.out.size
        have hkl : ((ps.take k).map fun p => (rdNum p).1).length ≤ k ∧ k ≤ ((ps.take k).map fun p => (rdNum p).1).length := by rw [List.length_map, List.length_take]; omega
        by_cases hlt : k < ps.length
        · have i1 : (k : Int) < ps.length := by omega
          obtain ⟨p, hp⟩ : ∃ p, ps[k]? = some p := ⟨_, List.getElem?_eq_getElem hlt⟩
          have c1 : wr.cell? ⟨g, k, none⟩ = some (.string p) := (HB.out.cell (p := ⟨g, k, none⟩) hgl).trans (HCE.out k p hp)
          have hwl : g < wr.heap.size := by omega
          have hpsz : p.size ≤ 1048576 := by
            have h1 : p.data.toList ∈ cutL L := by rw [← HP2.out]; exact List.mem_map.2 ⟨p, List.mem_of_getElem? hp, rfl⟩
            have := cutL_le h1
            rw [size_len]
            omega
          have HN := Lib.hid (show (ps.take (k + 1)).map (fun p => (rdNum p).1) = (ps.take k).map (fun p => (rdNum p).1) ++ [(rdNum p).1] by rw [take_snoc hp, List.map_append]; rfl)
          have HA2 := Lib.hid (show ((ps.take (k + 1)).map (·.data.toList)).all okN = (okN p.data.toList) by rw [take_snoc hp, List.map_append, List.all_append, HA.out]; simp)
          have HNO : Hid (okN p.data.toList = false → fRead L = ([], false)) := Lib.hid (fun h => NO.out (by
            unfold listOk
            have h1 : p.data.toList ∈ cutL L := by rw [← HP2.out]; exact List.mem_map.2 ⟨p, List.mem_of_getElem? hp, rfl⟩
            have : (cutL L).all okN = false := by
              rw [List.all_eq_false]
              exact ⟨_, h1, by simp [h]⟩
            rw [this, Bool.and_false]))
          have hok := rdNum_ok p
          obtain ⟨n, q, hnq⟩ : ∃ n q, rdNum p = (n, q) := ⟨_, _, rfl⟩
          have HR := Lib.hid hnq
          rw [hnq] at hok
          rw [hnq] at HN
          simp only at hok HN
          clear hp hnq
          cases q with
          | false =>
            have HN0 := Lib.hid (HNO.out (by rw [← hok]; rfl))
            clear hok
            go_wp2_with (go_at_call 73; (refine (specNumber_c p hpsz _).mono ?_); rintro e wc ⟨rfl, rfl⟩; rw [HR.out])
            go_returns
            exact ⟨.slice none 0 0, by simp [HN0.out], by rw [HN0.out]; exact OwnI.nil _ _ _, HB1.out.trans (HB.out.mono z1)⟩
          | true =>
            cases hin : inB n (-1000000000000) 1000000000000 with
            | false =>
              have HN0 := Lib.hid (HNO.out (by rw [← hok, hin]; rfl))
              clear hok
              go_wp2_with (first
                | (go_at_call 73; (refine (specNumber_c p hpsz _).mono ?_); rintro e wc ⟨rfl, rfl⟩; rw [HR.out])
                | (go_at_call 63; (refine (l00In_v hin _).mono ?_); rintro e wc ⟨rfl, rfl⟩))
              go_returns
              exact ⟨.slice none 0 0, by simp [HN0.out], by rw [HN0.out]; exact OwnI.nil _ _ _, HB1.out.trans (HB.out.mono z1)⟩
            | true =>
              have HA3 : Hid (((ps.take (k + 1)).map (·.data.toList)).all okN = true) := Lib.hid (by rw [HA2.out, ← hok, hin]; rfl)
              clear hok
              go_wp2_with (first
                | (at_builtin; refine wpList_push rfl _ _ 53 rfl Tryd.underlying53 int64_info _ rfl HO.out rfl rfl (by omega) (by omega) ?_; intro v' w3 hO' hB'; have HO' := Lib.hid hO'; have HB' := Lib.hid hB'; clear hO' hB')
                | (go_at_call 73; (refine (specNumber_c p hpsz _).mono ?_); rintro e wc ⟨rfl, rfl⟩; rw [HR.out])
                | (go_at_call 63; (refine (l00In_v hin _).mono ?_); rintro e wc ⟨rfl, rfl⟩))
              go_roundw
              case rel => exact ⟨k + 1, by omega, by go_num, Lib.hid (by rw [HN.out]; exact HO'.out), HA3, Lib.hid (HB.out.trans HB'.out)⟩
              case measure => simp [intOf]; omega
        · obtain rfl : k = ps.length := by omega
          have hO2 := HO.out
          rw [List.take_length, HV.out] at hO2
          have hA2 := HA.out
          rw [List.take_length, HP2.out] at hA2
          have HO2 := Lib.hid hO2
          have HY := Lib.hid (YES.out (by
            unfold listOk
            rw [hA2, Bool.and_true]
            exact decide_eq_true HC64.out))
          clear hO2 hA2
          go_wp2
          go_returns
          exact ⟨_, by simp [HY.out]; rfl, by rw [HY.out]; exact own_mono HO2.out z1, HB1.out.trans (HB.out.mono z1)⟩
end Go.Proofs.YthoapfdflffpkaaDoor
