/- Numbers read from texts: what the reads of the library's variables rest on, and ReadDecimal. -/
import Derived.Test.YthemojobalcopaaGreatDoorTX3
import Derived.Test.YthemojobalcopaaGreatDoorRP
import Derived.Shelf.Strings.Prefix
import Derived.Shelf.Strings.SplitShaped
import Derived.Shelf.Strconv.ParseIntPublic10
import Derived.Shelf.Strconv.ErrVarParseInt
import Derived.Lib.ParseIntBTie
import Derived.Ground.NamesProg
namespace Go.Proofs.YthemojobalcopaaGreatDoor
open Go.ChangeShapes Go.WideShapes Go.ChangeAt Go.RowKit Go.Shelf
set_option linter.unusedVariables false
set_option linter.unusedSimpArgs false

theorem size_len (t : ByteArray) : t.size = t.data.toList.length := by
  rw [Array.length_toList]
  rfl
theorem toList_inj {a b : ByteArray} (h : a.toList = b.toList) : a = b := by
  rw [ByteArray.toList_eq, ByteArray.toList_eq] at h
  apply ByteArray.ext
  exact Array.toList_inj.1 h
theorem var_below {P : Program} {w w' : World} {nm : String} {c : Array Value} (h : w.var? P nm = some c) (hb : Below w.heap.size w w') : w'.var? P nm = some c := by
  unfold World.var? at *
  cases hg : P.globalNamed nm with
  | none =>
    rw [hg] at h
    exact h
  | some g =>
    rw [hg] at h
    simp only [Option.bind_some] at h ⊢
    have hlt : g < w.heap.size := by
      rcases Nat.lt_or_ge g w.heap.size with h1 | h1
      · exact h1
      · rw [Array.getElem?_eq_none h1] at h
        cases h
    rw [hb.block g hlt]
    exact h
/-- What a reading call finds of the library's variables: the table of powers, and two errors that are not nil. -/
structure Env (P : Program) (w : World) : Prop where
  tab : Tab P w
  syn : ∃ tp p, w.var? P "strconv.ErrSyntax" = some #[.iface tp p]
  rng : ∃ tp p, w.var? P "strconv.ErrRange" = some #[.iface tp p]
theorem Env.below {P : Program} {w w' : World} (h : Env P w) (hb : Below w.heap.size w w') : Env P w' :=
  ⟨h.tab.below hb, let ⟨tp, p, e⟩ := h.syn; ⟨tp, p, var_below e hb⟩, let ⟨tp, p, e⟩ := h.rng; ⟨tp, p, var_below e hb⟩⟩
def trimLay_ren : Go.Shelf.Ren := ⟨fun | 101 => 57 | 208 => 65 | 206 => 78 | n => n, fun | 9 => 9 | 4 => 4 | 3 => 3 | n => n, fun | n => n⟩
theorem trimLay : Go.Proofs.Lays.n101 Tryz.prog trimLay_ren := {
  mixed := by kernel_rfl,
  f101 := Tryz.func57.trans (congrArg some (by kernel_rfl)),
  f206 := Tryz.func78.trans (congrArg some (by kernel_rfl)),
  f208 := Tryz.func65.trans (congrArg some (by kernel_rfl)),
  t3 := Tryz.underlying3,
  a3 := Tryz.isAgg3,
  z3 := Tryz.sizeOf3,
  v3 := Tryz.zeroValue3,
  t4 := Tryz.underlying4,
  a4 := Tryz.isAgg4,
  z4 := Tryz.sizeOf4,
  v4 := Tryz.zeroValue4,
  t9 := Tryz.underlying9,
  a9 := Tryz.isAgg9,
  z9 := Tryz.sizeOf9,
  v9 := Tryz.zeroValue9
}

def parseLay_ren : Go.Shelf.Ren := ⟨fun | 174 => 58 | 247 => 66 | 245 => 67 | 287 => 79 | 279 => 80 | 280 => 81 | 281 => 82 | 282 => 83 | 321 => 94 | 322 => 95 | 316 => 96 | 171 => 98 | 205 => 97 | 243 => 103 | 246 => 59 | 283 => 68 | 284 => 69 | 285 => 70 | 286 => 71 | 129 => 85 | 317 => 84 | 318 => 86 | 319 => 87 | 320 => 88 | 337 => 99 | 338 => 100 | n => n, fun | 9 => 9 | 3 => 3 | 2 => 2 | 75 => 79 | 85 => 85 | 4 => 4 | 167 => 105 | 5 => 5 | 53 => 59 | 175 => 106 | 46 => 68 | 168 => 108 | 37 => 22 | 0 => 0 | 210 => 122 | 21 => 21 | 127 => 87 | 145 => 133 | 143 => 131 | 171 => 92 | 173 => 95 | 212 => 113 | 51 => 114 | 20 => 20 | 213 => 115 | 232 => 134 | 233 => 135 | 80 => 82 | n => n, fun | 15 => 2 | 16 => 3 | 17 => 0 | 18 => 6 | 19 => 7 | n => n⟩
theorem parseLay : Go.Proofs.LaysC.n174 Tryz.prog parseLay_ren := {
  mixed := by kernel_rfl,
  f129 := Tryz.func85.trans (congrArg some (by kernel_rfl)),
  f171 := Tryz.func98.trans (congrArg some (by kernel_rfl)),
  f174 := Tryz.func58.trans (congrArg some (by kernel_rfl)),
  f205 := Tryz.func97.trans (congrArg some (by kernel_rfl)),
  f243 := Tryz.func103.trans (congrArg some (by kernel_rfl)),
  f245 := Tryz.func67.trans (congrArg some (by kernel_rfl)),
  f246 := Tryz.func59.trans (congrArg some (by kernel_rfl)),
  f247 := Tryz.func66.trans (congrArg some (by kernel_rfl)),
  f279 := Tryz.func80.trans (congrArg some (by kernel_rfl)),
  f280 := Tryz.func81.trans (congrArg some (by kernel_rfl)),
  f281 := Tryz.func82.trans (congrArg some (by kernel_rfl)),
  f282 := Tryz.func83.trans (congrArg some (by kernel_rfl)),
  f283 := Tryz.func68.trans (congrArg some (by kernel_rfl)),
  f284 := Tryz.func69.trans (congrArg some (by kernel_rfl)),
  f285 := Tryz.func70.trans (congrArg some (by kernel_rfl)),
  f286 := Tryz.func71.trans (congrArg some (by kernel_rfl)),
  f287 := Tryz.func79.trans (congrArg some (by kernel_rfl)),
  f316 := Tryz.func96.trans (congrArg some (by kernel_rfl)),
  f317 := Tryz.func84.trans (congrArg some (by kernel_rfl)),
  f318 := Tryz.func86.trans (congrArg some (by kernel_rfl)),
  f319 := Tryz.func87.trans (congrArg some (by kernel_rfl)),
  f320 := Tryz.func88.trans (congrArg some (by kernel_rfl)),
  f321 := Tryz.func94.trans (congrArg some (by kernel_rfl)),
  f322 := Tryz.func95.trans (congrArg some (by kernel_rfl)),
  f337 := Tryz.func99.trans (congrArg some (by kernel_rfl)),
  f338 := Tryz.func100.trans (congrArg some (by kernel_rfl)),
  t0 := Tryz.underlying0,
  a0 := Tryz.isAgg0,
  z0 := Tryz.sizeOf0,
  v0 := Tryz.zeroValue0,
  t2 := Tryz.underlying2,
  a2 := Tryz.isAgg2,
  z2 := Tryz.sizeOf2,
  v2 := Tryz.zeroValue2,
  t3 := Tryz.underlying3,
  a3 := Tryz.isAgg3,
  z3 := Tryz.sizeOf3,
  v3 := Tryz.zeroValue3,
  t4 := Tryz.underlying4,
  a4 := Tryz.isAgg4,
  z4 := Tryz.sizeOf4,
  v4 := Tryz.zeroValue4,
  t5 := Tryz.underlying5,
  a5 := Tryz.isAgg5,
  z5 := Tryz.sizeOf5,
  v5 := Tryz.zeroValue5,
  t9 := Tryz.underlying9,
  a9 := Tryz.isAgg9,
  z9 := Tryz.sizeOf9,
  v9 := Tryz.zeroValue9,
  t20 := Tryz.underlying20,
  a20 := Tryz.isAgg20,
  z20 := Tryz.sizeOf20,
  v20 := Tryz.zeroValue20,
  t21 := Tryz.underlying21,
  a21 := Tryz.isAgg21,
  z21 := Tryz.sizeOf21,
  v21 := Tryz.zeroValue21,
  t37 := Tryz.underlying22,
  a37 := Tryz.isAgg22,
  z37 := Tryz.sizeOf22,
  v37 := Tryz.zeroValue22,
  t46 := Tryz.underlying68,
  a46 := Tryz.isAgg68,
  z46 := Tryz.sizeOf68,
  v46 := Tryz.zeroValue68,
  t51 := Tryz.underlying114,
  a51 := Tryz.isAgg114,
  z51 := Tryz.sizeOf114,
  v51 := Tryz.zeroValue114,
  t53 := Tryz.underlying59,
  a53 := Tryz.isAgg59,
  z53 := Tryz.sizeOf59,
  v53 := Tryz.zeroValue59,
  t75 := Tryz.underlying79,
  a75 := Tryz.isAgg79,
  z75 := Tryz.sizeOf79,
  v75 := Tryz.zeroValue79,
  t85 := Tryz.underlying85,
  a85 := Tryz.isAgg85,
  z85 := Tryz.sizeOf85,
  v85 := Tryz.zeroValue85,
  t127 := Tryz.underlying87,
  a127 := Tryz.isAgg87,
  z127 := Tryz.sizeOf87,
  v127 := Tryz.zeroValue87,
  t143 := Tryz.underlying131,
  a143 := Tryz.isAgg131,
  z143 := Tryz.sizeOf131,
  v143 := Tryz.zeroValue131,
  t145 := Tryz.underlying133,
  a145 := Tryz.isAgg133,
  z145 := Tryz.sizeOf133,
  v145 := Tryz.zeroValue133,
  t167 := Tryz.underlying105,
  a167 := Tryz.isAgg105,
  z167 := Tryz.sizeOf105,
  v167 := Tryz.zeroValue105,
  t168 := Tryz.underlying108,
  a168 := Tryz.isAgg108,
  z168 := Tryz.sizeOf108,
  v168 := Tryz.zeroValue108,
  t171 := Tryz.underlying92,
  a171 := Tryz.isAgg92,
  z171 := Tryz.sizeOf92,
  v171 := Tryz.zeroValue92,
  t173 := Tryz.underlying95,
  a173 := Tryz.isAgg95,
  z173 := Tryz.sizeOf95,
  v173 := Tryz.zeroValue95,
  t175 := Tryz.underlying106,
  a175 := Tryz.isAgg106,
  z175 := Tryz.sizeOf106,
  v175 := Tryz.zeroValue106,
  t210 := Tryz.underlying122,
  a210 := Tryz.isAgg122,
  z210 := Tryz.sizeOf122,
  v210 := Tryz.zeroValue122,
  t212 := Tryz.underlying113,
  a212 := Tryz.isAgg113,
  z212 := Tryz.sizeOf113,
  v212 := Tryz.zeroValue113,
  t213 := Tryz.underlying115,
  a213 := Tryz.isAgg115,
  z213 := Tryz.sizeOf115,
  t232 := Tryz.underlying134,
  a232 := Tryz.isAgg134,
  z232 := Tryz.sizeOf134,
  v232 := Tryz.zeroValue134,
  t233 := Tryz.underlying135,
  a233 := Tryz.isAgg135,
  z233 := Tryz.sizeOf135,
  v233 := Tryz.zeroValue135,
  g15 := by kernel_rfl,
  g16 := by kernel_rfl,
  g17 := by kernel_rfl,
  g18 := by kernel_rfl,
  g19 := by kernel_rfl,
  t80 := Tryz.underlying82,
  a80 := Tryz.isAgg82,
  z80 := Tryz.sizeOf82,
  v80 := Tryz.zeroValue82,
  i0 := by kernel_rfl,
  i2 := by kernel_rfl,
  i3 := by kernel_rfl,
  i4 := by kernel_rfl,
  i5 := by kernel_rfl,
  i9 := by kernel_rfl,
  i20 := by kernel_rfl,
  i21 := by kernel_rfl,
  i37 := by kernel_rfl,
  i46 := by kernel_rfl,
  i51 := by kernel_rfl,
  i53 := by kernel_rfl,
  i75 := by kernel_rfl,
  i80 := by kernel_rfl,
  i85 := by kernel_rfl,
  i127 := by kernel_rfl,
  i143 := by kernel_rfl,
  i145 := by kernel_rfl,
  i167 := by kernel_rfl,
  i168 := by kernel_rfl,
  i171 := by kernel_rfl,
  i173 := by kernel_rfl,
  i175 := by kernel_rfl,
  i210 := by kernel_rfl,
  i212 := by kernel_rfl,
  i232 := by kernel_rfl,
  i233 := by kernel_rfl,
  m15 := by kernel_rfl,
  m16 := by kernel_rfl,
  m17 := by kernel_rfl,
  m18 := by kernel_rfl,
  m19 := by kernel_rfl,
  c0 := by kernel_rfl,
  c2 := by kernel_rfl,
  c3 := by kernel_rfl,
  c4 := by kernel_rfl,
  c5 := by kernel_rfl,
  c9 := by kernel_rfl,
  c20 := by kernel_rfl,
  c21 := by kernel_rfl,
  c37 := by kernel_rfl,
  c46 := by kernel_rfl,
  c51 := by kernel_rfl,
  c53 := by kernel_rfl,
  c75 := by kernel_rfl,
  c80 := by kernel_rfl,
  c85 := by kernel_rfl,
  c127 := by kernel_rfl,
  c143 := by kernel_rfl,
  c145 := by kernel_rfl,
  c167 := by kernel_rfl,
  c168 := by kernel_rfl,
  c171 := by kernel_rfl,
  c173 := by kernel_rfl,
  c175 := by kernel_rfl,
  c210 := by kernel_rfl,
  c212 := by kernel_rfl,
  c213 := by kernel_rfl,
  c232 := by kernel_rfl,
  c233 := by kernel_rfl
}

theorem trim_c (s : ByteArray) (w : World) : Calls Tryz.prog 57 #[.string s, .string ⟨#[45]⟩] w fun e w' => ∃ t : ByteArray, e = .returned (.string t) ∧ t.data.toList = trimM s.data.toList ∧ w = w' := by
  refine (Any.strings_TrimPrefix trimLay s ⟨#[45]⟩ w).mono ?_
  rintro e w' ⟨rfl, hw⟩
  refine ⟨_, rfl, ?_, hw.symm⟩
  show Lib.trimPrefix s.data.toList [45] = trimM s.data.toList
  unfold Lib.trimPrefix Lib.hasPrefix trimM
  cases s.data.toList with
  | nil => rfl
  | cons c r =>
    by_cases h : c = 45
    · subst h
      simp [List.isPrefixOf]
    · simp [List.isPrefixOf, h, Ne.symm h]
/-- What strconv.ParseInt gives: the number, or an error that is not nil. -/
theorem parse_ok (s : ByteArray) (hl : s.size ≤ 1048576) (v : Int) (h : Lib.atoiAll s.data.toList = .ok v) (w : World) : Calls Tryz.prog 58 #[.string s, .int .i64 10, .int .i64 64] w fun e w' => e = .returned (.tuple #[.int .i64 v, .nilIface]) ∧ Below w.heap.size w w' := by
  refine (Any.strconv_ParseInt_10_at64_ok parseLay s (by omega) v (by rw [Lib.parseIntB_64]; exact h) w).mono ?_
  rintro e w' ⟨rfl, rfl | ⟨t, rfl⟩⟩
  · exact ⟨rfl, Below.refl _ _⟩
  · exact ⟨rfl, Lib.bytesWorld_below _ _ _⟩
theorem parse_no (s : ByteArray) (hl : s.size ≤ 1048576) (h : ∀ v, Lib.atoiAll s.data.toList ≠ .ok v) (w : World) (hE : Env Tryz.prog w) : Calls Tryz.prog 58 #[.string s, .int .i64 10, .int .i64 64] w fun e w' => (∃ (v : Int) (t : TypeId) (N : Nat), e = .returned (.tuple #[.int .i64 v, .iface t (.pointer (some ⟨N, 0, none⟩))])) ∧ Below w.heap.size w w' := by
  rcases hc : Lib.atoiAll s.data.toList with v | _ | _
  · exact absurd hc (h v)
  · obtain ⟨tp, p, e⟩ := hE.syn
    refine (Any.strconv_ParseInt_10_at64_syntax_var parseLay s (by omega) (by rw [Lib.parseIntB_64]; exact hc) tp p w e).mono ?_
    rintro e w' ⟨N, rfl, _, _, hb⟩
    exact ⟨⟨_, _, N, rfl⟩, hb⟩
  · obtain ⟨tp, p, e⟩ := hE.rng
    refine (Any.strconv_ParseInt_10_at64_range_var parseLay s (by omega) (by rw [Lib.parseIntB_64]; exact hc) tp p w e).mono ?_
    rintro e w' ⟨N, rfl, _, _, hb⟩
    exact ⟨⟨_, _, N, rfl⟩, hb⟩
/-- The number of a text, as both sides give it. -/
def rdNum (s : ByteArray) : Int × Bool := match numO s.data.toList with | some n => (n, true) | none => (0, false)
set_option maxHeartbeats 2000000 in
theorem readDecimal_c (s : ByteArray) (hl : s.size ≤ 1048576) (w : World) (hE : Env Tryz.prog w) : Calls Tryz.prog 51 #[.string s] w fun e w' => e = .returned (.tuple #[.int .i64 (rdNum s).1, .bool (rdNum s).2]) ∧ Below w.heap.size w w' := by
  have HE := Lib.hid hE
  by_cases ht : 1 ≤ (trimM s.data.toList).length ∧ (trimM s.data.toList).length ≤ 18
  · have q1 : decide (((trimM s.data.toList).length : Int) < 1) = false := by simp; omega
    have q2 : decide ((18 : Int) < (trimM s.data.toList).length) = false := by simp; omega
    by_cases hp : ∃ n, Lib.atoiAll s.data.toList = .ok n
    · obtain ⟨n, hp⟩ := hp
      have hb := Lib.atoiAll_bounds hp
      have hI : I64 n := by unfold I64; omega
      by_cases hi : Lib.itoa n = s.data.toList
      · have HR := Lib.hid (show rdNum s = (n, true) by unfold rdNum; rw [parse_num ht.2 hp hi])
        have HDc := fun (w : World) (ht : Tab Tryz.prog w) => decimal_c n hI w ht
        rw [show (⟨(Lib.itoa n).toArray⟩ : ByteArray) = s by rw [hi]] at HDc
        have HDc := Lib.hid HDc
        rw [HR.out]
        go_enter Tryz.func51, Tryz.ntmps51
        go_wp2_with (first | (go_at_call 57; (refine (trim_c s _).mono ?_); rintro e w' ⟨t, rfl, htt, rfl⟩; have t1 : (t.size : Int) = (trimM s.data.toList).length := (by rw [← htt, size_len]); clear htt) | (go_at_call 58; (refine (parse_ok s hl n hp _).mono ?_); rintro e w1 ⟨rfl, hb1⟩; have HB1 := Lib.hid hb1; clear hb1) | (go_at_call 47; (refine (HDc.out _ (HE.out.below HB1.out).tab).mono ?_); rintro e w2 ⟨rfl, hb2⟩; have HB2 := Lib.hid (HB1.out.trans (hb2.mono HB1.out.size)); clear hb2))
        go_returns
        exact ⟨by simp, HB2.out⟩
      · have HR := Lib.hid (show rdNum s = (0, false) by
          unfold rdNum
          cases hn : numO s.data.toList with
          | none => rfl
          | some k =>
            have h1 := num_parse hn
            rw [hp] at h1
            injection h1 with h1
            subst h1
            exact absurd (numO_some hn).1 hi)
        have hs : ¬ (⟨(Lib.itoa n).toArray⟩ : ByteArray) = s := fun h => hi (by rw [← h])
        have HDc := fun (w : World) (ht : Tab Tryz.prog w) => decimal_c n hI w ht
        generalize (⟨(Lib.itoa n).toArray⟩ : ByteArray) = dd at hs HDc
        have HDc := Lib.hid HDc
        have hs3 : (dd.toList == s.toList) = false := by rw [beq_eq_false_iff_ne]; exact fun h => hs (toList_inj h)
        rw [HR.out]
        go_enter Tryz.func51, Tryz.ntmps51
        go_wp2_with (first | (go_at_call 57; (refine (trim_c s _).mono ?_); rintro e w' ⟨t, rfl, htt, rfl⟩; have t1 : (t.size : Int) = (trimM s.data.toList).length := (by rw [← htt, size_len]); clear htt) | (go_at_call 58; (refine (parse_ok s hl n hp _).mono ?_); rintro e w1 ⟨rfl, hb1⟩; have HB1 := Lib.hid hb1; clear hb1) | (go_at_call 47; (refine (HDc.out _ (HE.out.below HB1.out).tab).mono ?_); rintro e w2 ⟨rfl, hb2⟩; have HB2 := Lib.hid (HB1.out.trans (hb2.mono HB1.out.size)); clear hb2))
        go_returns
        exact ⟨by simp, HB2.out⟩
    · have HR := Lib.hid (show rdNum s = (0, false) by
        unfold rdNum
        cases hn : numO s.data.toList with
        | none => rfl
        | some k => exact absurd ⟨k, num_parse hn⟩ hp)
      rw [HR.out]
      go_enter Tryz.func51, Tryz.ntmps51
      go_wp2_with (first | (go_at_call 57; (refine (trim_c s _).mono ?_); rintro e w' ⟨t, rfl, htt, rfl⟩; have t1 : (t.size : Int) = (trimM s.data.toList).length := (by rw [← htt, size_len]); clear htt) | (go_at_call 58; (refine (parse_no s hl (fun v hv => hp ⟨v, hv⟩) _ HE.out).mono ?_); rintro e w1 ⟨⟨v, t9, N9, rfl⟩, hb1⟩; have HB1 := Lib.hid hb1; clear hb1))
      go_returns
      exact ⟨by simp, HB1.out⟩
  · have HR := Lib.hid (show rdNum s = (0, false) by
      unfold rdNum
      cases hn : numO s.data.toList with
      | none => rfl
      | some k => exact absurd (numO_len hn) ht)
    rw [HR.out]
    rcases Nat.lt_or_ge (trimM s.data.toList).length 1 with h1 | h1
    · have q1 : decide (((trimM s.data.toList).length : Int) < 1) = true := by simp; omega
      go_enter Tryz.func51, Tryz.ntmps51
      go_wp2_with (first | (go_at_call 57; (refine (trim_c s _).mono ?_); rintro e w' ⟨t, rfl, htt, rfl⟩; have t1 : (t.size : Int) = (trimM s.data.toList).length := (by rw [← htt, size_len]); clear htt))
      go_returns
      exact ⟨by simp, Below.refl _ _⟩
    · have q1 : decide (((trimM s.data.toList).length : Int) < 1) = false := by simp; omega
      have q2 : decide ((18 : Int) < (trimM s.data.toList).length) = true := by simp; omega
      go_enter Tryz.func51, Tryz.ntmps51
      go_wp2_with (first | (go_at_call 57; (refine (trim_c s _).mono ?_); rintro e w' ⟨t, rfl, htt, rfl⟩; have t1 : (t.size : Int) = (trimM s.data.toList).length := (by rw [← htt, size_len]); clear htt))
      go_returns
      exact ⟨by simp, Below.refl _ _⟩
end Go.Proofs.YthemojobalcopaaGreatDoor
