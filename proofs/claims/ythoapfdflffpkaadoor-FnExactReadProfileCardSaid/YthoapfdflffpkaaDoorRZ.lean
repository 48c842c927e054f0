/- Numbers and cut texts of the reference. -/
import Derived.Test.YthoapfdflffpkaaDoorRY
namespace Go.Proofs.YthoapfdflffpkaaDoor
open Go.ChangeShapes Go.WideShapes Go.ChangeAt Go.RowKit Go.Shelf
open Lib (digitVal decFrom decNat)
set_option linter.unusedVariables false
set_option linter.unusedSimpArgs false

theorem idx_at {P : Program} (t : TypeId) (ht : P.underlying t = some .string) (s : ByteArray) (i : Nat) (c : UInt8) (h : s.data.toList[i]? = some c) (n : Int) (hn : n = i) (w : World) : (Instr.index t (.string s) (.int .i64 n)).run P w = .ok (.int .u8 (c.toNat : Int)) w := by
  subst hn
  have hl : i < s.data.toList.length := (List.getElem?_eq_some_iff.1 h).1
  have hs : i < s.size := by rw [size_len]; exact hl
  rw [run_index_string w t s .i64 _ ht, dif_pos ⟨by omega, by omega⟩]
  have e : s[((i : Int)).toNat]'(by simpa using hs) = c := by
    have e1 : s[i]'hs = c := by
      have := (List.getElem?_eq_some_iff.1 h).2
      rw [← this]
      rfl
    simpa using e1
  rw [e]
theorem decFrom_lt : ∀ (l : List UInt8) (a m : Nat), decFrom a l = some m → m < (a + 1) * 10 ^ l.length
  | [], a, m, h => by
    simp only [decFrom, Option.some.injEq] at h
    simp
    omega
  | b :: r, a, m, h => by
    rw [decFrom] at h
    cases hd : digitVal b with
    | none => rw [hd] at h; cases h
    | some d =>
      rw [hd] at h
      have h1 := decFrom_lt r _ m h
      have h2 := (dig_ofNat hd).2
      have h3 : (a * 10 + d + 1) * 10 ^ r.length ≤ ((a + 1) * 10) * 10 ^ r.length := Nat.mul_le_mul_right _ (by omega)
      rw [List.length_cons, Nat.pow_succ, Nat.mul_comm (10 ^ r.length) 10, ← Nat.mul_assoc]
      omega
theorem decFrom_lt18 {l : List UInt8} {k m : Nat} (h : decFrom 0 (l.take k) = some m) (hk : k ≤ 18) : m < 1000000000000000000 ∧ (k < 18 → m < 100000000000000000) := by
  have h1 := decFrom_lt _ _ _ h
  have h2 : (l.take k).length ≤ k := by rw [List.length_take]; omega
  have h3 : 10 ^ (l.take k).length ≤ 10 ^ 18 := Nat.pow_le_pow_right (by omega) (by omega)
  refine ⟨by omega, fun h4 => ?_⟩
  have h5 : 10 ^ (l.take k).length ≤ 10 ^ 17 := Nat.pow_le_pow_right (by omega) (by omega)
  omega
theorem decFrom_step {l : List UInt8} {k m : Nat} {b : UInt8} (h : decFrom 0 (l.take k) = some m) (hb : l[k]? = some b) : (∀ d, digitVal b = some d → decFrom 0 (l.take (k + 1)) = some (m * 10 + d)) ∧ (digitVal b = none → decFrom 0 l = none) := by
  constructor
  · intro d hd
    rw [take_snoc hb, decFrom_app, h, Option.bind_some, decFrom, hd]
    rfl
  · intro hd
    have e : l = l.take k ++ b :: l.drop (k + 1) := by
      have := List.take_append_drop k l
      rw [List.drop_eq_getElem_cons (List.getElem?_eq_some_iff.1 hb).1, (List.getElem?_eq_some_iff.1 hb).2] at this
      exact this.symm
    rw [e, decFrom_app, h, Option.bind_some, decFrom, hd]
theorem numO_pos {c : UInt8} {r : List UInt8} (hc : c ≠ 45) : numO (c :: r) = if (c :: r).length ≤ 18 ∧ (c = 48 → r = []) then (decFrom 0 (c :: r)).map (fun (m : Nat) => (m : Int)) else none := by
  rw [numO, if_neg hc]
  rfl
theorem numO_neg {c : UInt8} {r : List UInt8} : numO (45 :: c :: r) = if (c :: r).length ≤ 18 ∧ c ≠ 48 then (decFrom 0 (c :: r)).map (fun (m : Nat) => -(m : Int)) else none := by
  rw [numO, if_pos rfl]
  simp only [List.head?_cons, ne_eq, Option.some.injEq]
  rfl
theorem numO_one : numO [45] = none := by
  rw [numO, if_pos rfl]
  simp [decNat]
theorem u8_ne {c : UInt8} {n : Nat} (hn : n < 256) (h : c ≠ UInt8.ofNat n) : (c.toNat : Int) ≠ n := fun e => h (by
  apply UInt8.toNat_inj.1
  rw [UInt8.toNat_ofNat']
  omega)
theorem digit_c (x : Int) (h0 : 0 ≤ x) (h1 : x ≤ 255) (w : World) : Calls Tryd.prog 86 #[.int .u8 x] w fun e w' => e = .returned (.bool (decide (48 ≤ x) && decide (x ≤ 57))) ∧ w = w' := by
  by_cases h : 48 ≤ x
  · have h' : decide (x ≥ 48) = true := by simp [h]
    go_enter Tryd.func86, Tryd.ntmps86
    go_wp2
    go_returns
    simp [h]
  · have h' : decide (x ≥ 48) = false := by simp; omega
    go_enter Tryd.func86, Tryd.ntmps86
    go_wp2
    go_returns
    simp [h]
set_option maxHeartbeats 4000000 in
theorem specNumber_c (s : ByteArray) (hl : s.size ≤ 1048576) (w : World) : Calls Tryd.prog 73 #[.string s] w fun e w' => e = .returned (.tuple #[.int .i64 (rdNum s).1, .bool (rdNum s).2]) ∧ w = w' := by
  have hsz := size_len s
  have HI := Lib.hid (fun (i : Nat) (c : UInt8) (h : s.data.toList[i]? = some c) => idx_at (P := Tryd.prog) 9 Tryd.underlying9 s i c h)
  obtain ⟨L, hL⟩ : ∃ L, s.data.toList = L := ⟨_, rfl⟩
  have HR : Hid (rdNum s = match numO L with | some n => (n, true) | none => (0, false)) := Lib.hid (by unfold rdNum; rw [hL]; rfl)
  rw [hL] at hsz HI
  clear hL
  have no : numO L = none → rdNum s = (0, false) := fun h => by rw [HR.out, h]
  have yes : ∀ n, numO L = some n → rdNum s = (n, true) := fun n h => by rw [HR.out, h]
  have NO := Lib.hid no
  have YES := Lib.hid yes
  clear no yes HR
  cases L with
  | nil =>
    rw [NO.out rfl]
    simp only [List.length_nil] at hsz
    go_enter Tryd.func73, Tryd.ntmps73
    go_wp2
    go_returns
    exact ⟨rfl, rfl⟩
  | cons c r =>
    rw [List.length_cons] at hsz
    obtain ⟨hz1, hz2⟩ : s.size ≤ r.length + 1 ∧ r.length + 1 ≤ s.size := by omega
    clear hsz
    have i0 := HI.out 0 c rfl 0 rfl
    have hc256 := c.toNat_lt
    have p0 : (0 : Int) < s.size := by omega
    by_cases hc : c = 45
    · subst hc
      have i0' : ∀ w : World, (Instr.index 9 (.string s) (.int .i64 0)).run Tryd.prog w = .ok (.int .u8 45) w := i0
      clear i0
      cases r with
      | nil =>
        rw [NO.out numO_one]
        simp only [List.length_nil] at hz1 hz2
        have q1 : (s.size : Int) = 1 := by omega
        go_enter Tryd.func73, Tryd.ntmps73
        go_wp2
        go_returns
        exact ⟨rfl, rfl⟩
      | cons d r2 =>
        rw [List.length_cons] at hz1 hz2
        have i1 := HI.out 1 d rfl 1 rfl
        have hd256 := d.toNat_lt
        have q1 : ¬ (s.size : Int) = 1 := by omega
        have q2 : (1 : Int) < s.size := by omega
        by_cases h18 : (d :: r2).length ≤ 18
        · have q3 : ¬ (18 : Int) < s.size - 1 := by simp only [List.length_cons] at h18; omega
          by_cases h48 : d = 48
          · subst h48
            have i1' : ∀ w : World, (Instr.index 9 (.string s) (.int .i64 1)).run Tryd.prog w = .ok (.int .u8 48) w := i1
            clear i1
            rw [NO.out (by rw [numO_neg, if_neg (by simp)])]
            go_enter Tryd.func73, Tryd.ntmps73
            go_wp2
            go_returns
            exact ⟨rfl, rfl⟩
          · have q4 : ¬ (d.toNat : Int) = 48 := u8_ne (n := 48) (by omega) h48
            have HV := Lib.hid (show numO (45 :: d :: r2) = (decFrom 0 (d :: r2)).map (fun (m : Nat) => -(m : Int)) by rw [numO_neg, if_pos ⟨h18, h48⟩])
            obtain ⟨T, hT⟩ : ∃ T, d :: r2 = T := ⟨_, rfl⟩
            have htl : T.length ≤ 18 := by rw [← hT]; exact h18
            obtain ⟨ht1, ht2⟩ : s.size ≤ T.length + 1 ∧ T.length + 1 ≤ s.size := by rw [← hT, List.length_cons]; omega
            have HX := Lib.hid (fun (k : Nat) (b : UInt8) (h : T[k]? = some b) => HI.out (k + 1) b (by rw [hT, List.getElem?_cons_succ]; exact h))
            rw [hT] at HV NO YES
            clear HI hT h18 h48 hz1 hz2
            go_enter Tryd.func73, Tryd.ntmps73
            go_wp2
            go_loopw [5, 6] (fun v i wr => ∃ k m : Nat, k ≤ T.length ∧ i = .int .i64 (1 + (k : Int)) ∧ v = .int .i64 (m : Int) ∧ Hid (decFrom 0 (T.take k) = some m) ∧ w = wr) (fun _ i _ => s.size - (intOf i).toNat)
            case atStart => exact ⟨0, 0, by omega, rfl, rfl, Lib.hid rfl, rfl⟩
            case round =>
              obtain ⟨k, m, hk, rfl, rfl, HD, rfl⟩ := hrel
              by_cases hlt : k < T.length
              · obtain ⟨b, hb⟩ : ∃ b, T[k]? = some b := ⟨_, List.getElem?_eq_getElem hlt⟩
                have HS := Lib.hid (decFrom_step HD.out hb)
                have ix := HX.out k b hb (1 + (k : Int)) (by omega)
                have l1 : (1 + (k : Int)) < s.size := by omega
                have l18 := decFrom_lt18 HD.out (by omega)
                have hm17 := l18.2 (by omega)
                have hb256 := b.toNat_lt
                clear hb l18
                cases hd : digitVal b with
                | none =>
                  have hnd : (decide (48 ≤ (b.toNat : Int)) && decide ((b.toNat : Int) ≤ 57)) = false := by
                    unfold digitVal at hd
                    split at hd
                    · cases hd
                    · simp; omega
                  have HN := Lib.hid (NO.out (by rw [HV.out, HS.out.2 hd]; rfl))
                  clear hd
                  go_wp2_with (go_at_call 86; (refine (digit_c (b.toNat : Int) (by omega) (by omega) _).mono ?_); rintro e w' ⟨rfl, rfl⟩; rw [hnd])
                  go_returns
                  exact ⟨by simp [HN.out], rfl⟩
                | some d =>
                  have hnd : (decide (48 ≤ (b.toNat : Int)) && decide ((b.toNat : Int) ≤ 57)) = true ∧ (b.toNat : Int) = 48 + d ∧ d < 10 := by
                    unfold digitVal at hd
                    split at hd
                    · injection hd with hd
                      simp
                      omega
                    · cases hd
                  obtain ⟨hnd, hbd, hd10⟩ := hnd
                  have HS2 := Lib.hid (HS.out.1 d hd)
                  clear hd
                  rw [hbd] at ix hnd
                  go_wp2_with (go_at_call 86; (refine (digit_c (48 + (d : Int)) (by omega) (by omega) _).mono ?_); rintro e w' ⟨rfl, rfl⟩; rw [hnd])
                  go_roundw
                  case rel => exact ⟨k + 1, m * 10 + d, by omega, by first | rfl | (congr 1; omega) | (simp; omega), by first | rfl | (congr 1; push_cast; omega) | (simp; omega), HS2, by first | rfl | trivial⟩
                  case measure => simp [intOf]; omega
              · obtain rfl : k = T.length := by omega
                have HD2 := HD.out
                rw [List.take_length] at HD2
                have l18 := decFrom_lt18 HD.out htl
                have HN := Lib.hid (YES.out (-(m : Int)) (by rw [HV.out, HD2]; rfl))
                clear HD2
                have l1 : ¬ (1 + (T.length : Int)) < s.size := by omega
                go_wp2
                go_returns
                exact ⟨by simp [HN.out], rfl⟩
        · have q3 : (18 : Int) < s.size - 1 := by simp only [List.length_cons] at h18; omega
          rw [NO.out (by rw [numO_neg, if_neg (fun h => h18 h.1)])]
          clear i1
          go_enter Tryd.func73, Tryd.ntmps73
          go_wp2
          go_returns
          exact ⟨rfl, rfl⟩
    · have q0 : ¬ (c.toNat : Int) = 45 := u8_ne (n := 45) (by omega) hc
      have q1 : ¬ (s.size : Int) = 0 := by omega
      have q1a : ((s.size : Int) == 0) = false := by rw [beq_eq_false_iff_ne]; omega
      have q1b : ¬ s.size = 0 := by omega
      by_cases h18 : (c :: r).length ≤ 18
      · have q3 : ¬ (18 : Int) < s.size := by simp only [List.length_cons] at h18; omega
        have HP : Hid (∀ u : Unit, (c = 48 → r = []) → numO (c :: r) = (decFrom 0 (c :: r)).map (fun (m : Nat) => (m : Int))) := Lib.hid (fun _ h => by rw [numO_pos hc, if_pos ⟨h18, h⟩])
        obtain ⟨T, hT⟩ : ∃ T, c :: r = T := ⟨_, rfl⟩
        have htl : T.length ≤ 18 := by rw [← hT]; exact h18
        obtain ⟨ht1, ht2⟩ : s.size ≤ T.length ∧ T.length ≤ s.size := by rw [← hT, List.length_cons]; omega
        have HX := Lib.hid (fun (k : Nat) (b : UInt8) (h : T[k]? = some b) => HI.out k b (by rw [hT]; exact h))
        by_cases h48 : c = 48
        · subst h48
          have i0' : ∀ w : World, (Instr.index 9 (.string s) (.int .i64 0)).run Tryd.prog w = .ok (.int .u8 48) w := i0
          clear i0
          by_cases hr : r = []
          · have q5 : ¬ (1 : Int) < s.size := by rw [hr] at hz1 hz2; simp at hz1 hz2; omega
            have HV := Lib.hid (HP.out () fun _ => hr)
            rw [hT] at HV NO YES
            clear HI hT h18 hz1 hz2 HP hr
            go_enter Tryd.func73, Tryd.ntmps73
            go_wp2
            go_loopw [5, 6] (fun v i wr => ∃ k m : Nat, k ≤ T.length ∧ i = .int .i64 (k : Int) ∧ v = .int .i64 (m : Int) ∧ Hid (decFrom 0 (T.take k) = some m) ∧ w = wr) (fun _ i _ => s.size - (intOf i).toNat)
            case atStart => exact ⟨0, 0, by omega, rfl, rfl, Lib.hid rfl, rfl⟩
            case round =>
              obtain ⟨k, m, hk, rfl, rfl, HD, rfl⟩ := hrel
              by_cases hlt : k < T.length
              · obtain ⟨b, hb⟩ : ∃ b, T[k]? = some b := ⟨_, List.getElem?_eq_getElem hlt⟩
                have HS := Lib.hid (decFrom_step HD.out hb)
                have ix := HX.out k b hb (k : Int) (by omega)
                have l1 : (k : Int) < s.size := by omega
                have l18 := decFrom_lt18 HD.out (by omega)
                have hm17 := l18.2 (by omega)
                have hb256 := b.toNat_lt
                clear hb l18
                cases hd : digitVal b with
                | none =>
                  have hnd : (decide (48 ≤ (b.toNat : Int)) && decide ((b.toNat : Int) ≤ 57)) = false := by
                    unfold digitVal at hd
                    split at hd
                    · cases hd
                    · simp; omega
                  have HN := Lib.hid (NO.out (by rw [HV.out, HS.out.2 hd]; rfl))
                  clear hd
                  go_wp2_with (go_at_call 86; (refine (digit_c (b.toNat : Int) (by omega) (by omega) _).mono ?_); rintro e w' ⟨rfl, rfl⟩; rw [hnd])
                  go_returns
                  exact ⟨by simp [HN.out], rfl⟩
                | some d =>
                  have hnd : (decide (48 ≤ (b.toNat : Int)) && decide ((b.toNat : Int) ≤ 57)) = true ∧ (b.toNat : Int) = 48 + d ∧ d < 10 := by
                    unfold digitVal at hd
                    split at hd
                    · injection hd with hd
                      simp
                      omega
                    · cases hd
                  obtain ⟨hnd, hbd, hd10⟩ := hnd
                  have HS2 := Lib.hid (HS.out.1 d hd)
                  clear hd
                  rw [hbd] at ix hnd
                  go_wp2_with (go_at_call 86; (refine (digit_c (48 + (d : Int)) (by omega) (by omega) _).mono ?_); rintro e w' ⟨rfl, rfl⟩; rw [hnd])
                  go_roundw
                  case rel => exact ⟨k + 1, m * 10 + d, by omega, by first | rfl | (congr 1; omega) | (simp; omega), by first | rfl | (congr 1; push_cast; omega) | (simp; omega), HS2, by first | rfl | trivial⟩
                  case measure => simp [intOf]; omega
              · obtain rfl : k = T.length := by omega
                have HD2 := HD.out
                rw [List.take_length] at HD2
                have l18 := decFrom_lt18 HD.out htl
                have HN := Lib.hid (YES.out (m : Int) (by rw [HV.out, HD2]; rfl))
                clear HD2
                have l1 : ¬ (T.length : Int) < s.size := by omega
                go_wp2
                go_returns
                exact ⟨by simp [HN.out], rfl⟩
          · have q5 : (1 : Int) < s.size := by
              have := List.length_pos_iff.2 hr
              omega
            rw [NO.out (by rw [numO_pos hc, if_neg (fun h => hr (h.2 rfl))])]
            go_enter Tryd.func73, Tryd.ntmps73
            go_wp2
            go_returns
            exact ⟨rfl, rfl⟩
        · have q4 : ¬ (c.toNat : Int) = 48 := u8_ne (n := 48) (by omega) h48
          have HV := Lib.hid (HP.out () fun h => absurd h h48)
          rw [hT] at HV NO YES
          clear HI hT h18 hz1 hz2 HP h48
          go_enter Tryd.func73, Tryd.ntmps73
          go_wp2
          go_loopw [5, 6] (fun v i wr => ∃ k m : Nat, k ≤ T.length ∧ i = .int .i64 (k : Int) ∧ v = .int .i64 (m : Int) ∧ Hid (decFrom 0 (T.take k) = some m) ∧ w = wr) (fun _ i _ => s.size - (intOf i).toNat)
          case atStart => exact ⟨0, 0, by omega, rfl, rfl, Lib.hid rfl, rfl⟩
          case round =>
            obtain ⟨k, m, hk, rfl, rfl, HD, rfl⟩ := hrel
            by_cases hlt : k < T.length
            · obtain ⟨b, hb⟩ : ∃ b, T[k]? = some b := ⟨_, List.getElem?_eq_getElem hlt⟩
              have HS := Lib.hid (decFrom_step HD.out hb)
              have ix := HX.out k b hb (k : Int) (by omega)
              have l1 : (k : Int) < s.size := by omega
              have l18 := decFrom_lt18 HD.out (by omega)
              have hm17 := l18.2 (by omega)
              have hb256 := b.toNat_lt
              clear hb l18
              cases hd : digitVal b with
              | none =>
                have hnd : (decide (48 ≤ (b.toNat : Int)) && decide ((b.toNat : Int) ≤ 57)) = false := by
                  unfold digitVal at hd
                  split at hd
                  · cases hd
                  · simp; omega
                have HN := Lib.hid (NO.out (by rw [HV.out, HS.out.2 hd]; rfl))
                clear hd
                go_wp2_with (go_at_call 86; (refine (digit_c (b.toNat : Int) (by omega) (by omega) _).mono ?_); rintro e w' ⟨rfl, rfl⟩; rw [hnd])
                go_returns
                exact ⟨by simp [HN.out], rfl⟩
              | some d =>
                have hnd : (decide (48 ≤ (b.toNat : Int)) && decide ((b.toNat : Int) ≤ 57)) = true ∧ (b.toNat : Int) = 48 + d ∧ d < 10 := by
                  unfold digitVal at hd
                  split at hd
                  · injection hd with hd
                    simp
                    omega
                  · cases hd
                obtain ⟨hnd, hbd, hd10⟩ := hnd
                have HS2 := Lib.hid (HS.out.1 d hd)
                clear hd
                rw [hbd] at ix hnd
                go_wp2_with (go_at_call 86; (refine (digit_c (48 + (d : Int)) (by omega) (by omega) _).mono ?_); rintro e w' ⟨rfl, rfl⟩; rw [hnd])
                go_roundw
                case rel => exact ⟨k + 1, m * 10 + d, by omega, by first | rfl | (congr 1; omega) | (simp; omega), by first | rfl | (congr 1; push_cast; omega) | (simp; omega), HS2, by first | rfl | trivial⟩
                case measure => simp [intOf]; omega
            · obtain rfl : k = T.length := by omega
              have HD2 := HD.out
              rw [List.take_length] at HD2
              have l18 := decFrom_lt18 HD.out htl
              have HN := Lib.hid (YES.out (m : Int) (by rw [HV.out, HD2]; rfl))
              clear HD2
              have l1 : ¬ (T.length : Int) < s.size := by omega
              go_wp2
              go_returns
              exact ⟨by simp [HN.out], rfl⟩
      · have q3 : (18 : Int) < s.size := by simp only [List.length_cons] at h18; omega
        rw [NO.out (by rw [numO_pos hc, if_neg (fun h => h18 h.1)])]
        go_enter Tryd.func73, Tryd.ntmps73
        go_wp2
        go_returns
        exact ⟨rfl, rfl⟩
end Go.Proofs.YthoapfdflffpkaaDoor
