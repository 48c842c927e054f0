/- Numbers read from texts: what the reads of the library's variables rest on, and ReadDecimal. -/
import Derived.Test.YthoapfdflffpkaaDoorTX3
import Derived.Test.YthoapfdflffpkaaDoorRP
import Derived.Shelf.Strings.Prefix
import Derived.Shelf.Strings.SplitShaped
import Derived.Shelf.Strconv.ParseIntPublic10
import Derived.Shelf.Strconv.ErrVarParseInt
import Derived.Lib.ParseIntBTie
import Derived.Ground.NamesProg
namespace Go.Proofs.YthoapfdflffpkaaDoor
open Go.ChangeShapes Go.WideShapes Go.ChangeAt Go.RowKit Go.Shelf
set_option linter.unusedVariables false
set_option linter.unusedSimpArgs false

theorem size_len (t : ByteArray) : t.size = t.data.toList.length := by
  rw [Array.length_toList]
  rfl
theorem toList_inj {a b : ByteArray} (h : a.toList = b.toList) : a = b := by
  rw [ByteArray.toList_eq, ByteArray.toList_eq] at h
  apply ByteArray.ext
  exact Array.toList_inj.1 h
theorem var_below {P : Program} {w w' : World} {nm : String} {c : Array Value} (h : w.var? P nm = some c) (hb : Below w.heap.size w w') : w'.var? P nm = some c := by
  unfold World.var? at *
  cases hg : P.globalNamed nm with
  | none =>
    rw [hg] at h
    exact h
  | some g =>
    rw [hg] at h
    simp only [Option.bind_some] at h ⊢
    have hlt : g < w.heap.size := by
      rcases Nat.lt_or_ge g w.heap.size with h1 | h1
      · exact h1
      · rw [Array.getElem?_eq_none h1] at h
        cases h
    rw [hb.block g hlt]
    exact h
/-- What a reading call finds of the library's variables: the table of powers, and two errors that are not nil. -/
structure Env (P : Program) (w : World) : Prop where
  tab : Tab P w
  syn : ∃ tp p, w.var? P "strconv.ErrSyntax" = some #[.iface tp p]
  rng : ∃ tp p, w.var? P "strconv.ErrRange" = some #[.iface tp p]
theorem Env.below {P : Program} {w w' : World} (h : Env P w) (hb : Below w.heap.size w w') : Env P w' :=
  ⟨h.tab.below hb, let ⟨tp, p, e⟩ := h.syn; ⟨tp, p, var_below e hb⟩, let ⟨tp, p, e⟩ := h.rng; ⟨tp, p, var_below e hb⟩⟩
def trimLay_ren : Go.Shelf.Ren := ⟨fun | 101 => 93 | 208 => 104 | 206 => 116 | n => n, fun | 9 => 9 | 4 => 4 | 3 => 3 | n => n, fun | n => n⟩
theorem trimLay : Go.Proofs.Lays.n101 Tryd.prog trimLay_ren := {
  mixed := by kernel_rfl,
  f101 := Tryd.func93.trans (congrArg some (by kernel_rfl)),
  f206 := Tryd.func116.trans (congrArg some (by kernel_rfl)),
  f208 := Tryd.func104.trans (congrArg some (by kernel_rfl)),
  t3 := Tryd.underlying3,
  a3 := Tryd.isAgg3,
  z3 := Tryd.sizeOf3,
  v3 := Tryd.zeroValue3,
  t4 := Tryd.underlying4,
  a4 := Tryd.isAgg4,
  z4 := Tryd.sizeOf4,
  v4 := Tryd.zeroValue4,
  t9 := Tryd.underlying9,
  a9 := Tryd.isAgg9,
  z9 := Tryd.sizeOf9,
  v9 := Tryd.zeroValue9
}

def parseLay_ren : Go.Shelf.Ren := ⟨fun | 174 => 94 | 247 => 105 | 245 => 106 | 287 => 117 | 279 => 118 | 280 => 119 | 281 => 120 | 282 => 121 | 321 => 129 | 322 => 130 | 316 => 131 | 171 => 133 | 205 => 132 | 243 => 136 | 246 => 89 | 283 => 95 | 284 => 96 | 285 => 97 | 286 => 98 | 129 => 108 | 317 => 107 | 318 => 109 | 319 => 110 | 320 => 111 | 337 => 122 | 338 => 123 | n => n, fun | 9 => 9 | 3 => 3 | 2 => 2 | 75 => 115 | 85 => 126 | 4 => 4 | 167 => 153 | 5 => 5 | 53 => 101 | 175 => 154 | 46 => 128 | 168 => 156 | 37 => 50 | 0 => 0 | 210 => 163 | 21 => 21 | 127 => 123 | 145 => 175 | 143 => 173 | 171 => 130 | 173 => 133 | 212 => 143 | 51 => 144 | 20 => 20 | 213 => 145 | 232 => 165 | 233 => 166 | 80 => 118 | n => n, fun | 15 => 2 | 16 => 3 | 17 => 0 | 18 => 4 | 19 => 5 | n => n⟩
theorem parseLay : Go.Proofs.LaysC.n174 Tryd.prog parseLay_ren := {
  mixed := by kernel_rfl,
  f129 := Tryd.func108.trans (congrArg some (by kernel_rfl)),
  f171 := Tryd.func133.trans (congrArg some (by kernel_rfl)),
  f174 := Tryd.func94.trans (congrArg some (by kernel_rfl)),
  f205 := Tryd.func132.trans (congrArg some (by kernel_rfl)),
  f243 := Tryd.func136.trans (congrArg some (by kernel_rfl)),
  f245 := Tryd.func106.trans (congrArg some (by kernel_rfl)),
  f246 := Tryd.func89.trans (congrArg some (by kernel_rfl)),
  f247 := Tryd.func105.trans (congrArg some (by kernel_rfl)),
  f279 := Tryd.func118.trans (congrArg some (by kernel_rfl)),
  f280 := Tryd.func119.trans (congrArg some (by kernel_rfl)),
  f281 := Tryd.func120.trans (congrArg some (by kernel_rfl)),
  f282 := Tryd.func121.trans (congrArg some (by kernel_rfl)),
  f283 := Tryd.func95.trans (congrArg some (by kernel_rfl)),
  f284 := Tryd.func96.trans (congrArg some (by kernel_rfl)),
  f285 := Tryd.func97.trans (congrArg some (by kernel_rfl)),
  f286 := Tryd.func98.trans (congrArg some (by kernel_rfl)),
  f287 := Tryd.func117.trans (congrArg some (by kernel_rfl)),
  f316 := Tryd.func131.trans (congrArg some (by kernel_rfl)),
  f317 := Tryd.func107.trans (congrArg some (by kernel_rfl)),
  f318 := Tryd.func109.trans (congrArg some (by kernel_rfl)),
  f319 := Tryd.func110.trans (congrArg some (by kernel_rfl)),
  f320 := Tryd.func111.trans (congrArg some (by kernel_rfl)),
  f321 := Tryd.func129.trans (congrArg some (by kernel_rfl)),
  f322 := Tryd.func130.trans (congrArg some (by kernel_rfl)),
  f337 := Tryd.func122.trans (congrArg some (by kernel_rfl)),
  f338 := Tryd.func123.trans (congrArg some (by kernel_rfl)),
  t0 := Tryd.underlying0,
  a0 := Tryd.isAgg0,
  z0 := Tryd.sizeOf0,
  v0 := Tryd.zeroValue0,
  t2 := Tryd.underlying2,
  a2 := Tryd.isAgg2,
  z2 := Tryd.sizeOf2,
  v2 := Tryd.zeroValue2,
  t3 := Tryd.underlying3,
  a3 := Tryd.isAgg3,
  z3 := Tryd.sizeOf3,
  v3 := Tryd.zeroValue3,
  t4 := Tryd.underlying4,
  a4 := Tryd.isAgg4,
  z4 := Tryd.sizeOf4,
  v4 := Tryd.zeroValue4,
  t5 := Tryd.underlying5,
  a5 := Tryd.isAgg5,
  z5 := Tryd.sizeOf5,
  v5 := Tryd.zeroValue5,
  t9 := Tryd.underlying9,
  a9 := Tryd.isAgg9,
  z9 := Tryd.sizeOf9,
  v9 := Tryd.zeroValue9,
  t20 := Tryd.underlying20,
  a20 := Tryd.isAgg20,
  z20 := Tryd.sizeOf20,
  v20 := Tryd.zeroValue20,
  t21 := Tryd.underlying21,
  a21 := Tryd.isAgg21,
  z21 := Tryd.sizeOf21,
  v21 := Tryd.zeroValue21,
  t37 := Tryd.underlying50,
  a37 := Tryd.isAgg50,
  z37 := Tryd.sizeOf50,
  v37 := Tryd.zeroValue50,
  t46 := Tryd.underlying128,
  a46 := Tryd.isAgg128,
  z46 := Tryd.sizeOf128,
  v46 := Tryd.zeroValue128,
  t51 := Tryd.underlying144,
  a51 := Tryd.isAgg144,
  z51 := Tryd.sizeOf144,
  v51 := Tryd.zeroValue144,
  t53 := Tryd.underlying101,
  a53 := Tryd.isAgg101,
  z53 := Tryd.sizeOf101,
  v53 := Tryd.zeroValue101,
  t75 := Tryd.underlying115,
  a75 := Tryd.isAgg115,
  z75 := Tryd.sizeOf115,
  v75 := Tryd.zeroValue115,
  t85 := Tryd.underlying126,
  a85 := Tryd.isAgg126,
  z85 := Tryd.sizeOf126,
  v85 := Tryd.zeroValue126,
  t127 := Tryd.underlying123,
  a127 := Tryd.isAgg123,
  z127 := Tryd.sizeOf123,
  v127 := Tryd.zeroValue123,
  t143 := Tryd.underlying173,
  a143 := Tryd.isAgg173,
  z143 := Tryd.sizeOf173,
  v143 := Tryd.zeroValue173,
  t145 := Tryd.underlying175,
  a145 := Tryd.isAgg175,
  z145 := Tryd.sizeOf175,
  v145 := Tryd.zeroValue175,
  t167 := Tryd.underlying153,
  a167 := Tryd.isAgg153,
  z167 := Tryd.sizeOf153,
  v167 := Tryd.zeroValue153,
  t168 := Tryd.underlying156,
  a168 := Tryd.isAgg156,
  z168 := Tryd.sizeOf156,
  v168 := Tryd.zeroValue156,
  t171 := Tryd.underlying130,
  a171 := Tryd.isAgg130,
  z171 := Tryd.sizeOf130,
  v171 := Tryd.zeroValue130,
  t173 := Tryd.underlying133,
  a173 := Tryd.isAgg133,
  z173 := Tryd.sizeOf133,
  v173 := Tryd.zeroValue133,
  t175 := Tryd.underlying154,
  a175 := Tryd.isAgg154,
  z175 := Tryd.sizeOf154,
  v175 := Tryd.zeroValue154,
  t210 := Tryd.underlying163,
  a210 := Tryd.isAgg163,
  z210 := Tryd.sizeOf163,
  v210 := Tryd.zeroValue163,
  t212 := Tryd.underlying143,
  a212 := Tryd.isAgg143,
  z212 := Tryd.sizeOf143,
  v212 := Tryd.zeroValue143,
  t213 := Tryd.underlying145,
  a213 := Tryd.isAgg145,
  z213 := Tryd.sizeOf145,
  t232 := Tryd.underlying165,
  a232 := Tryd.isAgg165,
  z232 := Tryd.sizeOf165,
  v232 := Tryd.zeroValue165,
  t233 := Tryd.underlying166,
  a233 := Tryd.isAgg166,
  z233 := Tryd.sizeOf166,
  v233 := Tryd.zeroValue166,
  g15 := by kernel_rfl,
  g16 := by kernel_rfl,
  g17 := by kernel_rfl,
  g18 := by kernel_rfl,
  g19 := by kernel_rfl,
  t80 := Tryd.underlying118,
  a80 := Tryd.isAgg118,
  z80 := Tryd.sizeOf118,
  v80 := Tryd.zeroValue118,
  i0 := by kernel_rfl,
  i2 := by kernel_rfl,
  i3 := by kernel_rfl,
  i4 := by kernel_rfl,
  i5 := by kernel_rfl,
  i9 := by kernel_rfl,
  i20 := by kernel_rfl,
  i21 := by kernel_rfl,
  i37 := by kernel_rfl,
  i46 := by kernel_rfl,
  i51 := by kernel_rfl,
  i53 := by kernel_rfl,
  i75 := by kernel_rfl,
  i80 := by kernel_rfl,
  i85 := by kernel_rfl,
  i127 := by kernel_rfl,
  i143 := by kernel_rfl,
  i145 := by kernel_rfl,
  i167 := by kernel_rfl,
  i168 := by kernel_rfl,
  i171 := by kernel_rfl,
  i173 := by kernel_rfl,
  i175 := by kernel_rfl,
  i210 := by kernel_rfl,
  i212 := by kernel_rfl,
  i232 := by kernel_rfl,
  i233 := by kernel_rfl,
  m15 := by kernel_rfl,
  m16 := by kernel_rfl,
  m17 := by kernel_rfl,
  m18 := by kernel_rfl,
  m19 := by kernel_rfl,
  c0 := by kernel_rfl,
  c2 := by kernel_rfl,
  c3 := by kernel_rfl,
  c4 := by kernel_rfl,
  c5 := by kernel_rfl,
  c9 := by kernel_rfl,
  c20 := by kernel_rfl,
  c21 := by kernel_rfl,
  c37 := by kernel_rfl,
  c46 := by kernel_rfl,
  c51 := by kernel_rfl,
  c53 := by kernel_rfl,
  c75 := by kernel_rfl,
  c80 := by kernel_rfl,
  c85 := by kernel_rfl,
  c127 := by kernel_rfl,
  c143 := by kernel_rfl,
  c145 := by kernel_rfl,
  c167 := by kernel_rfl,
  c168 := by kernel_rfl,
  c171 := by kernel_rfl,
  c173 := by kernel_rfl,
  c175 := by kernel_rfl,
  c210 := by kernel_rfl,
  c212 := by kernel_rfl,
  c213 := by kernel_rfl,
  c232 := by kernel_rfl,
  c233 := by kernel_rfl
}

theorem trim_c (s : ByteArray) (w : World) : Calls Tryd.prog 93 #[.string s, .string ⟨#[45]⟩] w fun e w' => ∃ t : ByteArray, e = .returned (.string t) ∧ t.data.toList = trimM s.data.toList ∧ w = w' := by
  refine (Any.strings_TrimPrefix trimLay s ⟨#[45]⟩ w).mono ?_
  rintro e w' ⟨rfl, hw⟩
  refine ⟨_, rfl, ?_, hw.symm⟩
  show Lib.trimPrefix s.data.toList [45] = trimM s.data.toList
  unfold Lib.trimPrefix Lib.hasPrefix trimM
  cases s.data.toList with
  | nil => rfl
  | cons c r =>
    by_cases h : c = 45
    · subst h
      simp [List.isPrefixOf]
    · simp [List.isPrefixOf, h, Ne.symm h]
/-- What strconv.ParseInt gives: the number, or an error that is not nil. -/
theorem parse_ok (s : ByteArray) (hl : s.size ≤ 1048576) (v : Int) (h : Lib.atoiAll s.data.toList = .ok v) (w : World) : Calls Tryd.prog 94 #[.string s, .int .i64 10, .int .i64 64] w fun e w' => e = .returned (.tuple #[.int .i64 v, .nilIface]) ∧ Below w.heap.size w w' := by
  refine (Any.strconv_ParseInt_10_at64_ok parseLay s (by omega) v (by rw [Lib.parseIntB_64]; exact h) w).mono ?_
  rintro e w' ⟨rfl, rfl | ⟨t, rfl⟩⟩
  · exact ⟨rfl, Below.refl _ _⟩
  · exact ⟨rfl, Lib.bytesWorld_below _ _ _⟩
theorem parse_no (s : ByteArray) (hl : s.size ≤ 1048576) (h : ∀ v, Lib.atoiAll s.data.toList ≠ .ok v) (w : World) (hE : Env Tryd.prog w) : Calls Tryd.prog 94 #[.string s, .int .i64 10, .int .i64 64] w fun e w' => (∃ (v : Int) (t : TypeId) (N : Nat), e = .returned (.tuple #[.int .i64 v, .iface t (.pointer (some ⟨N, 0, none⟩))])) ∧ Below w.heap.size w w' := by
  rcases hc : Lib.atoiAll s.data.toList with v | _ | _
  · exact absurd hc (h v)
  · obtain ⟨tp, p, e⟩ := hE.syn
    refine (Any.strconv_ParseInt_10_at64_syntax_var parseLay s (by omega) (by rw [Lib.parseIntB_64]; exact hc) tp p w e).mono ?_
    rintro e w' ⟨N, rfl, _, _, hb⟩
    exact ⟨⟨_, _, N, rfl⟩, hb⟩
  · obtain ⟨tp, p, e⟩ := hE.rng
    refine (Any.strconv_ParseInt_10_at64_range_var parseLay s (by omega) (by rw [Lib.parseIntB_64]; exact hc) tp p w e).mono ?_
    rintro e w' ⟨N, rfl, _, _, hb⟩
    exact ⟨⟨_, _, N, rfl⟩, hb⟩
/-- The number of a text, as both sides give it. -/
def rdNum (s : ByteArray) : Int × Bool := match numO s.data.toList with | some n => (n, true) | none => (0, false)
set_option maxHeartbeats 2000000 in
theorem readDecimal_c (s : ByteArray) (hl : s.size ≤ 1048576) (w : World) (hE : Env Tryd.prog w) : Calls Tryd.prog 85 #[.string s] w fun e w' => e = .returned (.tuple #[.int .i64 (rdNum s).1, .bool (rdNum s).2]) ∧ Below w.heap.size w w' := by
  have HE := Lib.hid hE
  by_cases ht : 1 ≤ (trimM s.data.toList).length ∧ (trimM s.data.toList).length ≤ 18
  · have q1 : decide (((trimM s.data.toList).length : Int) < 1) = false := by simp; omega
    have q2 : decide ((18 : Int) < (trimM s.data.toList).length) = false := by simp; omega
    by_cases hp : ∃ n, Lib.atoiAll s.data.toList = .ok n
    · obtain ⟨n, hp⟩ := hp
      have hb := Lib.atoiAll_bounds hp
      have hI : I64 n := by unfold I64; omega
      by_cases hi : Lib.itoa n = s.data.toList
      · have HR := Lib.hid (show rdNum s = (n, true) by unfold rdNum; rw [parse_num ht.2 hp hi])
        have HDc := fun (w : World) (ht : Tab Tryd.prog w) => decimal_c n hI w ht
        rw [show (⟨(Lib.itoa n).toArray⟩ : ByteArray) = s by rw [hi]] at HDc
        have HDc := Lib.hid HDc
        rw [HR.out]
        go_enter Tryd.func85, Tryd.ntmps85
        go_wp2_with (first | (go_at_call 93; (refine (trim_c s _).mono ?_); rintro e w' ⟨t, rfl, htt, rfl⟩; have t1 : (t.size : Int) = (trimM s.data.toList).length := (by rw [← htt, size_len]); clear htt) | (go_at_call 94; (refine (parse_ok s hl n hp _).mono ?_); rintro e w1 ⟨rfl, hb1⟩; have HB1 := Lib.hid hb1; clear hb1) | (go_at_call 68; (refine (HDc.out _ (HE.out.below HB1.out).tab).mono ?_); rintro e w2 ⟨rfl, hb2⟩; have HB2 := Lib.hid (HB1.out.trans (hb2.mono HB1.out.size)); clear hb2))
        go_returns
        exact ⟨by simp, HB2.out⟩
      · have HR := Lib.hid (show rdNum s = (0, false) by
          unfold rdNum
          cases hn : numO s.data.toList with
          | none => rfl
          | some k =>
            have h1 := num_parse hn
            rw [hp] at h1
            injection h1 with h1
            subst h1
            exact absurd (numO_some hn).1 hi)
        have hs : ¬ (⟨(Lib.itoa n).toArray⟩ : ByteArray) = s := fun h => hi (by rw [← h])
        have HDc := fun (w : World) (ht : Tab Tryd.prog w) => decimal_c n hI w ht
        generalize (⟨(Lib.itoa n).toArray⟩ : ByteArray) = dd at hs HDc
        have HDc := Lib.hid HDc
        have hs3 : (dd.toList == s.toList) = false := by rw [beq_eq_false_iff_ne]; exact fun h => hs (toList_inj h)
        rw [HR.out]
        go_enter Tryd.func85, Tryd.ntmps85
        go_wp2_with (first | (go_at_call 93; (refine (trim_c s _).mono ?_); rintro e w' ⟨t, rfl, htt, rfl⟩; have t1 : (t.size : Int) = (trimM s.data.toList).length := (by rw [← htt, size_len]); clear htt) | (go_at_call 94; (refine (parse_ok s hl n hp _).mono ?_); rintro e w1 ⟨rfl, hb1⟩; have HB1 := Lib.hid hb1; clear hb1) | (go_at_call 68; (refine (HDc.out _ (HE.out.below HB1.out).tab).mono ?_); rintro e w2 ⟨rfl, hb2⟩; have HB2 := Lib.hid (HB1.out.trans (hb2.mono HB1.out.size)); clear hb2))
        go_returns
        exact ⟨by simp, HB2.out⟩
    · have HR := Lib.hid (show rdNum s = (0, false) by
        unfold rdNum
        cases hn : numO s.data.toList with
        | none => rfl
        | some k => exact absurd ⟨k, num_parse hn⟩ hp)
      rw [HR.out]
      go_enter Tryd.func85, Tryd.ntmps85
      go_wp2_with (first | (go_at_call 93; (refine (trim_c s _).mono ?_); rintro e w' ⟨t, rfl, htt, rfl⟩; have t1 : (t.size : Int) = (trimM s.data.toList).length := (by rw [← htt, size_len]); clear htt) | (go_at_call 94; (refine (parse_no s hl (fun v hv => hp ⟨v, hv⟩) _ HE.out).mono ?_); rintro e w1 ⟨⟨v, t9, N9, rfl⟩, hb1⟩; have HB1 := Lib.hid hb1; clear hb1))
      go_returns
      exact ⟨by simp, HB1.out⟩
  · have HR := Lib.hid (show rdNum s = (0, false) by
      unfold rdNum
      cases hn : numO s.data.toList with
      | none => rfl
      | some k => exact absurd (numO_len hn) ht)
    rw [HR.out]
    rcases Nat.lt_or_ge (trimM s.data.toList).length 1 with h1 | h1
    · have q1 : decide (((trimM s.data.toList).length : Int) < 1) = true := by simp; omega
      go_enter Tryd.func85, Tryd.ntmps85
      go_wp2_with (first | (go_at_call 93; (refine (trim_c s _).mono ?_); rintro e w' ⟨t, rfl, htt, rfl⟩; have t1 : (t.size : Int) = (trimM s.data.toList).length := (by rw [← htt, size_len]); clear htt))
      go_returns
      exact ⟨by simp, Below.refl _ _⟩
    · have q1 : decide (((trimM s.data.toList).length : Int) < 1) = false := by simp; omega
      have q2 : decide ((18 : Int) < (trimM s.data.toList).length) = true := by simp; omega
      go_enter Tryd.func85, Tryd.ntmps85
      go_wp2_with (first | (go_at_call 93; (refine (trim_c s _).mono ?_); rintro e w' ⟨t, rfl, htt, rfl⟩; have t1 : (t.size : Int) = (trimM s.data.toList).length := (by rw [← htt, size_len]); clear htt))
      go_returns
      exact ⟨by simp, Below.refl _ _⟩
end Go.Proofs.YthoapfdflffpkaaDoor
