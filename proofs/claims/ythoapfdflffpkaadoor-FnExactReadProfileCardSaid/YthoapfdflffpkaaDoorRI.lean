/- The laws of ReadHour, ReadRope and ReadProfile: the walks. -/
import Derived.Test.YthoapfdflffpkaaDoorRH
namespace Go.Proofs.YthoapfdflffpkaaDoor
open Go.ChangeShapes Go.WideShapes Go.ChangeAt Go.RowKit Go.Shelf
set_option linter.unusedVariables false
set_option linter.unusedSimpArgs false

theorem eqHour_c (a b c : Int) (w : World) : Calls Tryd.prog 21 #[.agg #[.int .i64 a, .int .i64 b, .int .i64 c], .agg #[.int .i64 a, .int .i64 b, .int .i64 c]] w fun e w' => e = .returned (.bool true) ∧ Below w.heap.size w w' := by
  go_enter Tryd.func21, Tryd.ntmps21
  go_wp2
  go_returns
  refine ⟨rfl, ?_⟩
  repeat' (first
    | (with_reducible exact Below.refl _ _)
    | (with_reducible assumption)
    | (with_reducible refine Below.alloc ?_ ?_ _)
    | (with_reducible refine Below.drew ?_)
    | (with_reducible refine bdrewN ?_ _)
    | (with_reducible refine Below.setCell ?_ ?_ _)
    | (with_reducible refine bthen (by assumption) ?_ ?_)
    | go_size)
set_option maxHeartbeats 2000000 in
theorem walk_FnExactReadHour (s : ByteArray) (w : World) (hE : EnvL w) : Calls Tryd.prog 6 #[.string s] w fun e w' => e = .returned (.bool true) ∧ Below w.heap.size w w' := by
  by_cases h0 : (1048576 : Int) < s.size
  · go_enter Tryd.func6, Tryd.ntmps6
    go_wp2
    go_returns
    exact ⟨rfl, Below.refl _ _⟩
  · obtain ⟨a, b, c, q, hq⟩ := rdHour_is s.data.toList
    have HQ := Lib.hid hq
    have HE := Lib.hid hE
    clear hq hE
    cases q
    all_goals
      go_enter Tryd.func6, Tryd.ntmps6
      go_wp2_with (first
        | (go_at_call 19; (refine (specReadHour_v s (by omega) a b c _ HQ.out _).mono ?_); rintro e w1 ⟨rfl, hb1⟩; have z1 := hb1.size; have HB1 := Lib.hid (hb1.alloc z1 (.cells #[.int .i64 a, .int .i64 b, .int .i64 c] 25)); have HX1 := Lib.hid (BoxL.new3 w1 25 a b c); clear hb1)
        | (go_at_call 20; (refine (implReadHour_v s (by omega) a b c _ HQ.out _ (HE.out.below HB1.out)).mono ?_); rintro e w2 ⟨rfl, hb2⟩; have zw1 : w1.heap.size + 1 ≤ w2.heap.size := (by have := hb2.size; rw [World.size_alloc] at this; exact this); have HB2 := Lib.hid ((HB1.out.trans (hb2.mono (by rw [World.size_alloc]; omega))).alloc (by omega) (.cells #[.int .i64 a, .int .i64 b, .int .i64 c] 25)); obtain ⟨_, x2, _⟩ := (HX1.out.below hb2).below ((Below.refl w2.heap.size w2).alloc (Nat.le_refl _) (.cells #[.int .i64 a, .int .i64 b, .int .i64 c] 25)); have x20 := x2 0 _ rfl; have x21 := x2 1 _ rfl; have x22 := x2 2 _ rfl; clear hb2 x2)
        | (go_at_call 21; (refine (eqHour_c a b c _).mono ?_); rintro e w3 ⟨rfl, hb3⟩; have HB3 := Lib.hid (HB2.out.trans (hb3.mono (by rw [World.size_alloc]; omega))); clear hb3))
      go_returns
      exact ⟨rfl, HB3.out⟩
set_option maxHeartbeats 2000000 in
theorem walk_FnExactReadRope (s : ByteArray) (w : World) (hE : EnvL w) : Calls Tryd.prog 8 #[.string s] w fun e w' => e = .returned (.bool true) ∧ Below w.heap.size w w' := by
  by_cases h0 : (1048576 : Int) < s.size
  · go_enter Tryd.func8, Tryd.ntmps8
    go_wp2
    go_returns
    exact ⟨rfl, Below.refl _ _⟩
  · obtain ⟨a, b, c, d, q, hq⟩ := rdRope_is s.data.toList
    have HQ := Lib.hid hq
    have HE := Lib.hid hE
    clear hq hE
    cases q
    all_goals
      go_enter Tryd.func8, Tryd.ntmps8
      go_wp2_with (first
        | (go_at_call 25; (refine (specReadRope_v s (by omega) a b c d _ HQ.out _).mono ?_); rintro e w1 ⟨rfl, hb1⟩; have z1 := hb1.size; have HB1 := Lib.hid (hb1.alloc z1 (.cells #[.int .i64 a, .int .i64 b, .int .i64 c, .int .i64 d] 31)); have HX1 := Lib.hid (BoxL.new4 w1 31 a b c d); clear hb1)
        | (go_at_call 26; (refine (implReadRope_v s (by omega) a b c d _ HQ.out _ (HE.out.below HB1.out)).mono ?_); rintro e w2 ⟨rfl, hb2⟩; have zw1 : w1.heap.size + 1 ≤ w2.heap.size := (by have := hb2.size; rw [World.size_alloc] at this; exact this); have HB2 := Lib.hid ((HB1.out.trans (hb2.mono (by rw [World.size_alloc]; omega))).alloc (by omega) (.cells #[.int .i64 a, .int .i64 b, .int .i64 c, .int .i64 d] 31)); obtain ⟨_, x2, _⟩ := (HX1.out.below hb2).below ((Below.refl w2.heap.size w2).alloc (Nat.le_refl _) (.cells #[.int .i64 a, .int .i64 b, .int .i64 c, .int .i64 d] 31)); have x20 := x2 0 _ rfl; have x21 := x2 1 _ rfl; have x22 := x2 2 _ rfl; have x23 := x2 3 _ rfl; clear hb2 x2)
        | (go_at_call 27; (refine (eqRope_c a b c d _).mono ?_); rintro e w3 ⟨rfl, hb3⟩; have HB3 := Lib.hid (HB2.out.trans (hb3.mono (by rw [World.size_alloc]; omega))); clear hb3))
      go_returns
      exact ⟨rfl, HB3.out⟩
theorem eqProfile_c (a b c d : Int) (w : World) : Calls Tryd.prog 24 #[.agg #[.int .i64 a, .int .i64 b, .int .i64 c, .int .i64 d], .agg #[.int .i64 a, .int .i64 b, .int .i64 c, .int .i64 d]] w fun e w' => e = .returned (.bool true) ∧ Below w.heap.size w w' := by
  go_enter Tryd.func24, Tryd.ntmps24
  go_wp2
  go_returns
  refine ⟨rfl, ?_⟩
  repeat' (first
    | (with_reducible exact Below.refl _ _)
    | (with_reducible assumption)
    | (with_reducible refine Below.alloc ?_ ?_ _)
    | (with_reducible refine Below.drew ?_)
    | (with_reducible refine bdrewN ?_ _)
    | (with_reducible refine Below.setCell ?_ ?_ _)
    | (with_reducible refine bthen (by assumption) ?_ ?_)
    | go_size)
set_option maxHeartbeats 2000000 in
theorem walk_FnExactReadProfile (s : ByteArray) (w : World) (hE : EnvL w) : Calls Tryd.prog 7 #[.string s] w fun e w' => e = .returned (.bool true) ∧ Below w.heap.size w w' := by
  by_cases h0 : (1048576 : Int) < s.size
  · go_enter Tryd.func7, Tryd.ntmps7
    go_wp2
    go_returns
    exact ⟨rfl, Below.refl _ _⟩
  · obtain ⟨a, b, c, d, q, hq⟩ := rdProfile_is s.data.toList
    have HQ := Lib.hid hq
    have HE := Lib.hid hE
    clear hq hE
    cases q
    all_goals
      go_enter Tryd.func7, Tryd.ntmps7
      go_wp2_with (first
        | (go_at_call 22; (refine (specReadProfile_v s (by omega) a b c d _ HQ.out _).mono ?_); rintro e w1 ⟨rfl, hb1⟩; have z1 := hb1.size; have HB1 := Lib.hid (hb1.alloc z1 (.cells #[.int .i64 a, .int .i64 b, .int .i64 c, .int .i64 d] 37)); have HX1 := Lib.hid (BoxL.new4 w1 37 a b c d); clear hb1)
        | (go_at_call 23; (refine (implReadProfile_v s (by omega) a b c d _ HQ.out _ (HE.out.below HB1.out)).mono ?_); rintro e w2 ⟨rfl, hb2⟩; have zw1 : w1.heap.size + 1 ≤ w2.heap.size := (by have := hb2.size; rw [World.size_alloc] at this; exact this); have HB2 := Lib.hid ((HB1.out.trans (hb2.mono (by rw [World.size_alloc]; omega))).alloc (by omega) (.cells #[.int .i64 a, .int .i64 b, .int .i64 c, .int .i64 d] 37)); obtain ⟨_, x2, _⟩ := (HX1.out.below hb2).below ((Below.refl w2.heap.size w2).alloc (Nat.le_refl _) (.cells #[.int .i64 a, .int .i64 b, .int .i64 c, .int .i64 d] 37)); have x20 := x2 0 _ rfl; have x21 := x2 1 _ rfl; have x22 := x2 2 _ rfl; have x23 := x2 3 _ rfl; clear hb2 x2)
        | (go_at_call 24; (refine (eqProfile_c a b c d _).mono ?_); rintro e w3 ⟨rfl, hb3⟩; have HB3 := Lib.hid (HB2.out.trans (hb3.mono (by rw [World.size_alloc]; omega))); clear hb3))
      go_returns
      exact ⟨rfl, HB3.out⟩
end Go.Proofs.YthoapfdflffpkaaDoor
