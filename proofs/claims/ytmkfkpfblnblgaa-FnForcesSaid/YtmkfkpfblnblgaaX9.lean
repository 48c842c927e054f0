/- Forces at a place: the exported functions and their laws. -/
import Derived.Test.YtmkfkpfblnblgaaX5
import Derived.Test.YtmkfkpfblnblgaaX7
import Derived.Test.YtmkfkpfblnblgaaX8
import Derived.Test.YtmkfkpfblnblgaaSS
namespace Go.Proofs.Ytmkfkpfblnblgaa
open Go.ChangeShapes Go.WideShapes Go.ChangeAt Go.RowKit
set_option linter.unusedVariables false
set_option linter.unusedSimpArgs false

/-- The code of a track, a place and masses. -/
def codeT (z : List Int) (n : Nat) (f u x : Int) (m : Bool) : Int := codeOf (trackB z n f u) (inB x 0 (lenTo z n) && m)
theorem codeT_zero {z : List Int} {n : Nat} {f u x : Int} {m : Bool} (h : codeT z n f u x m = 0) : trackB z n f u = true ∧ inB x 0 (lenTo z n) = true ∧ m = true := by
  unfold codeT at h
  cases h1 : trackB z n f u <;> cases h2 : inB x 0 (lenTo z n) <;> cases m <;> simp [h1, h2] at h
  exact ⟨rfl, rfl, rfl⟩
theorem codeT_false {z : List Int} {n : Nat} {f u x : Int} : codeT z n f u x false ≠ 0 := fun h => by
  have := (codeT_zero h).2.2
  cases this
def fCode (code v : Int) : Int × Int := if code = 0 then (v, 0) else (0, code)
/-- A track in a block of its own. -/
structure TrackBox (b : Nat) (A : Option Addr) (n c : Nat) (f u : Int) (w : World) : Prop where
  c0 : w.cell? ⟨b, 0, none⟩ = some (.slice A n c)
  c1 : w.cell? ⟨b, 1, none⟩ = some (.int .i64 f)
  c2 : w.cell? ⟨b, 2, none⟩ = some (.int .i64 u)
  lt : b < w.heap.size
theorem TrackBox.below {b : Nat} {A : Option Addr} {n c : Nat} {f u : Int} {w w' : World} (h : TrackBox b A n c f u w) (hb : Below w.heap.size w w') : TrackBox b A n c f u w' :=
  ⟨(hb.cell (p := ⟨b, 0, none⟩) h.lt).trans h.c0, (hb.cell (p := ⟨b, 1, none⟩) h.lt).trans h.c1, (hb.cell (p := ⟨b, 2, none⟩) h.lt).trans h.c2, Nat.lt_of_lt_of_le h.lt hb.size⟩
theorem TrackBox.alloc {b : Nat} {A : Option Addr} {n c : Nat} {f u : Int} {w : World} (h : TrackBox b A n c f u w) (o : Obj) : TrackBox b A n c f u (w.alloc o) := h.below ((Below.refl _ _).alloc (Nat.le_refl _) _)
theorem TrackBox.new (w : World) (t : TypeId) (A : Option Addr) (n c : Nat) (f u : Int) : TrackBox w.heap.size A n c f u (w.alloc (.cells #[.slice A n c, .int .i64 f, .int .i64 u] t)) := ⟨by simp, by simp, by simp, by simp⟩
theorem loaded_v {A : Option Addr} {n c : Nat} {z : List Int} {f u x : Int} {fine : Bool} {code : Int} (hc : codeT z n f u x fine = code) (hz : z.length = n * 2) (hn : n ≤ 1048576) (w : World) (hr : RowI w A z) : Calls Try.prog 43 #[.agg #[.slice A n c, .int .i64 f, .int .i64 u], .int .i64 x, .bool fine] w fun e w' => e = .returned (.int .i64 code) ∧ Below w.heap.size w w' := by
  subst hc
  exact loaded_c A n c z f u x fine hz hn w hr
theorem l07Ask_v {A : Option Addr} {n c : Nat} {z : List Int} {f u x k o r : Int} {m : Bool} {code : Int} (hm : (inB k 0 100000 && inB o 0 100000 && inB r 0 20000) = m) (hc : codeT z n f u x m = code) (b : Nat) (hz : z.length = n * 2) (hn : n ≤ 1048576) (w : World) (hr : RowI w A z) (h0 : w.cell? ⟨b, 0, none⟩ = some (.slice A n c)) (h1 : w.cell? ⟨b, 1, none⟩ = some (.int .i64 f)) (h2 : w.cell? ⟨b, 2, none⟩ = some (.int .i64 u)) : Calls Try.prog 40 #[.pointer (some ⟨b, 0, none⟩), .int .i64 x, .int .i64 k, .int .i64 o, .int .i64 r] w fun e w' => e = .returned (.int .i64 code) ∧ ∃ m, w' = w.drewN m := by
  subst hm
  subst hc
  exact l07Ask_c A n c z f u x k o r b hz hn w hr h0 h1 h2
set_option maxHeartbeats 4000000 in
theorem implCarPull_c (A : Option Addr) (n c : Nat) (z : List Int) (f u x k : Int) (hz : z.length = n * 2) (hn : n ≤ 1048576) (w : World) (hr : RowI w A z) : Calls Try.prog 16 #[.agg #[.slice A n c, .int .i64 f, .int .i64 u], .int .i64 x, .int .i64 k] w fun e w' => e = .returned (.tuple #[.int .i64 (fCode (codeT z n f u x (inB k 0 100000)) (carI z n x k)).1, .int .i64 (fCode (codeT z n f u x (inB k 0 100000)) (carI z n x k)).2]) ∧ Below w.heap.size w w' := by
  cases hk : inB k 0 100000
  ·
    have hm : (inB k 0 100000) = false := by simp [hk]
    obtain ⟨code, hcode⟩ : ∃ code, codeT z n f u x false = code := ⟨_, rfl⟩
    have hne : code ≠ 0 := by rw [← hcode]; exact codeT_false
    have hne2 : (code != 0) = true := by simpa using hne
    have HF := Lib.hid (show fCode (codeT z n f u x false) (carI z n x k) = (0, code) by rw [hcode, fCode, if_neg hne])
    have HG := Lib.hid (show fCode (codeT z n f u x (false)) (carI z n x k) = (0, code) by rw [show (false) = false by simp]; exact HF.out)
    rw [HG.out]
    go_enter Try.func16, Try.ntmps16
    go_wp2
    first
      | go_region_held3 (fun w' => w'.cell? ⟨w.heap.size, 0, none⟩ = some (.slice (A) n c) ∧ w'.cell? ⟨w.heap.size, 1, none⟩ = some (.int .i64 (f)) ∧ w'.cell? ⟨w.heap.size, 2, none⟩ = some (.int .i64 (u)) ∧ w.heap.size < w'.heap.size ∧ RowI w' (A) z) (((try dsimp only at *); (try go_split_ands); (repeat' apply And.intro) <;> first | (with_reducible assumption) | (rw [qc _ _ (by with_reducible assumption)]; with_reducible assumption) | (with_reducible exact qz _ (by with_reducible assumption)) | (with_reducible exact RowI.below (by with_reducible assumption) (by with_reducible assumption)) | (simp [*, go_sem]; done) | omega | (refine RowI.drew ?_; simp [*]; done) | ((repeat (first | (with_reducible assumption) | (with_reducible refine RowI.drew ?_) | (with_reducible refine RowI.drewN ?_ _) | (with_reducible refine RowI.alloc ?_ _) | (with_reducible refine RowI.below ?_ (by with_reducible assumption)))); done) | (refine RowI.below ?_ (by assumption); first | (simp [*]; done) | (refine RowI.drew ?_; simp [*]; done))))
          (first
            | (go_at_call 44; (apply Calls.mono; focus ((with_reducible apply (isKilos_v hk)); (all_goals (first | (with_reducible assumption) | omega | ((repeat (first | (with_reducible assumption) | (with_reducible refine RowI.drewN ?_ _) | (with_reducible refine RowI.drew ?_) | (with_reducible refine RowI.alloc ?_ _) | (with_reducible refine RowI.below ?_ (by with_reducible assumption)))); done) | assumption | (simp; done) | (simp [*]; done))); done)); rintro e w' ⟨rfl, rfl⟩)
            | (go_at_call 43; (apply Calls.mono; focus ((with_reducible apply (loaded_v hcode hz hn)); (all_goals (first | (with_reducible assumption) | omega | ((repeat (first | (with_reducible assumption) | (with_reducible refine RowI.drewN ?_ _) | (with_reducible refine RowI.drew ?_) | (with_reducible refine RowI.alloc ?_ _) | (with_reducible refine RowI.below ?_ (by with_reducible assumption)))); done) | assumption | (simp; done) | (simp [*]; done))); done)); rintro e w' ⟨rfl, hb⟩; obtain ⟨qc, qf, qz, qs⟩ := bfacts hb; (try simp only [World.size_alloc, World.size_setCell, World.size_drew, World.heap_drewN] at qs)))
      | fail
    go_wp2
    go_returns
    refine ⟨rfl, ?_⟩
    repeat' (first
      | (with_reducible exact Below.refl _ _)
      | (with_reducible assumption)
      | (with_reducible refine Below.alloc ?_ ?_ _)
      | (with_reducible refine Below.drew ?_)
      | (with_reducible refine bdrewN ?_ _)
      | (with_reducible refine Below.setCell ?_ ?_ _)
      | (with_reducible refine bthen (by assumption) ?_ ?_)
      | go_size)
  ·
    obtain ⟨code, hcode⟩ : ∃ code, codeT z n f u x true = code := ⟨_, rfl⟩
    rw [show (true) = true from rfl, hcode]
    by_cases hz0 : code = 0
    ·
      subst hz0
      obtain ⟨ht, hx, _⟩ := codeT_zero hcode
      obtain ⟨⟨n0, n1⟩, hs, ⟨L0, L1⟩, _⟩ := trackB_true ht
      obtain ⟨x0, x1⟩ := inB_true hx
      have x2 : x ≤ 3000000 := by omega
      obtain ⟨k0, k1⟩ := inB_true hk
      rw [show fCode 0 (carI z n x k) = (carI z n x k, 0) from rfl]
      go_enter Try.func16, Try.ntmps16
      go_wp2
      first
        | go_region_held3 (fun w' => w'.cell? ⟨w.heap.size, 0, none⟩ = some (.slice (A) n c) ∧ w'.cell? ⟨w.heap.size, 1, none⟩ = some (.int .i64 (f)) ∧ w'.cell? ⟨w.heap.size, 2, none⟩ = some (.int .i64 (u)) ∧ w.heap.size < w'.heap.size ∧ RowI w' (A) z) (((try dsimp only at *); (try go_split_ands); (repeat' apply And.intro) <;> first | (with_reducible assumption) | (rw [qc _ _ (by with_reducible assumption)]; with_reducible assumption) | (with_reducible exact qz _ (by with_reducible assumption)) | (with_reducible exact RowI.below (by with_reducible assumption) (by with_reducible assumption)) | (simp [*, go_sem]; done) | omega | (refine RowI.drew ?_; simp [*]; done) | ((repeat (first | (with_reducible assumption) | (with_reducible refine RowI.drew ?_) | (with_reducible refine RowI.drewN ?_ _) | (with_reducible refine RowI.alloc ?_ _) | (with_reducible refine RowI.below ?_ (by with_reducible assumption)))); done) | (refine RowI.below ?_ (by assumption); first | (simp [*]; done) | (refine RowI.drew ?_; simp [*]; done))))
            (first
              | (go_at_call 44; (apply Calls.mono; focus ((with_reducible apply (isKilos_v hk)); (all_goals (first | (with_reducible assumption) | omega | ((repeat (first | (with_reducible assumption) | (with_reducible refine RowI.drewN ?_ _) | (with_reducible refine RowI.drew ?_) | (with_reducible refine RowI.alloc ?_ _) | (with_reducible refine RowI.below ?_ (by with_reducible assumption)))); done) | assumption | (simp; done) | (simp [*]; done))); done)); rintro e w' ⟨rfl, rfl⟩)
              | (go_at_call 43; (apply Calls.mono; focus ((with_reducible apply (loaded_v hcode hz hn)); (all_goals (first | (with_reducible assumption) | omega | ((repeat (first | (with_reducible assumption) | (with_reducible refine RowI.drewN ?_ _) | (with_reducible refine RowI.drew ?_) | (with_reducible refine RowI.alloc ?_ _) | (with_reducible refine RowI.below ?_ (by with_reducible assumption)))); done) | assumption | (simp; done) | (simp [*]; done))); done)); rintro e w' ⟨rfl, hb⟩; obtain ⟨qc, qf, qz, qs⟩ := bfacts hb; (try simp only [World.size_alloc, World.size_setCell, World.size_drew, World.heap_drewN] at qs)))
        | fail
      go_wp2_with
        (first
          | (go_at_call 45; (apply Calls.mono; focus ((with_reducible apply (carPull_c _ _ _ z _ _ _ _ hz n0 n1 hs x0 x2 k0 k1)); (all_goals (first | (with_reducible assumption) | omega | ((repeat (first | (with_reducible assumption) | (with_reducible refine RowI.drewN ?_ _) | (with_reducible refine RowI.drew ?_) | (with_reducible refine RowI.alloc ?_ _) | (with_reducible refine RowI.below ?_ (by with_reducible assumption)))); done) | assumption | (simp; done) | (simp [*]; done))); done)); rintro e w' ⟨rfl, hb⟩; obtain ⟨qc, qf, qz, qs⟩ := bfacts hb; (try simp only [World.size_alloc, World.size_setCell, World.size_drew, World.heap_drewN] at qs)))
      go_returns
      refine ⟨rfl, ?_⟩
      repeat' (first
        | (with_reducible exact Below.refl _ _)
        | (with_reducible assumption)
        | (with_reducible refine Below.alloc ?_ ?_ _)
        | (with_reducible refine Below.drew ?_)
        | (with_reducible refine bdrewN ?_ _)
        | (with_reducible refine Below.setCell ?_ ?_ _)
        | (with_reducible refine bthen (by assumption) ?_ ?_)
        | go_size)
    ·
      have hne2 : (code != 0) = true := by simpa using hz0
      rw [show fCode code (carI z n x k) = (0, code) by rw [fCode, if_neg hz0]]
      go_enter Try.func16, Try.ntmps16
      go_wp2
      first
        | go_region_held3 (fun w' => w'.cell? ⟨w.heap.size, 0, none⟩ = some (.slice (A) n c) ∧ w'.cell? ⟨w.heap.size, 1, none⟩ = some (.int .i64 (f)) ∧ w'.cell? ⟨w.heap.size, 2, none⟩ = some (.int .i64 (u)) ∧ w.heap.size < w'.heap.size ∧ RowI w' (A) z) (((try dsimp only at *); (try go_split_ands); (repeat' apply And.intro) <;> first | (with_reducible assumption) | (rw [qc _ _ (by with_reducible assumption)]; with_reducible assumption) | (with_reducible exact qz _ (by with_reducible assumption)) | (with_reducible exact RowI.below (by with_reducible assumption) (by with_reducible assumption)) | (simp [*, go_sem]; done) | omega | (refine RowI.drew ?_; simp [*]; done) | ((repeat (first | (with_reducible assumption) | (with_reducible refine RowI.drew ?_) | (with_reducible refine RowI.drewN ?_ _) | (with_reducible refine RowI.alloc ?_ _) | (with_reducible refine RowI.below ?_ (by with_reducible assumption)))); done) | (refine RowI.below ?_ (by assumption); first | (simp [*]; done) | (refine RowI.drew ?_; simp [*]; done))))
            (first
              | (go_at_call 44; (apply Calls.mono; focus ((with_reducible apply (isKilos_v hk)); (all_goals (first | (with_reducible assumption) | omega | ((repeat (first | (with_reducible assumption) | (with_reducible refine RowI.drewN ?_ _) | (with_reducible refine RowI.drew ?_) | (with_reducible refine RowI.alloc ?_ _) | (with_reducible refine RowI.below ?_ (by with_reducible assumption)))); done) | assumption | (simp; done) | (simp [*]; done))); done)); rintro e w' ⟨rfl, rfl⟩)
              | (go_at_call 43; (apply Calls.mono; focus ((with_reducible apply (loaded_v hcode hz hn)); (all_goals (first | (with_reducible assumption) | omega | ((repeat (first | (with_reducible assumption) | (with_reducible refine RowI.drewN ?_ _) | (with_reducible refine RowI.drew ?_) | (with_reducible refine RowI.alloc ?_ _) | (with_reducible refine RowI.below ?_ (by with_reducible assumption)))); done) | assumption | (simp; done) | (simp [*]; done))); done)); rintro e w' ⟨rfl, hb⟩; obtain ⟨qc, qf, qz, qs⟩ := bfacts hb; (try simp only [World.size_alloc, World.size_setCell, World.size_drew, World.heap_drewN] at qs)))
        | fail
      go_wp2
      go_returns
      refine ⟨rfl, ?_⟩
      repeat' (first
        | (with_reducible exact Below.refl _ _)
        | (with_reducible assumption)
        | (with_reducible refine Below.alloc ?_ ?_ _)
        | (with_reducible refine Below.drew ?_)
        | (with_reducible refine bdrewN ?_ _)
        | (with_reducible refine Below.setCell ?_ ?_ _)
        | (with_reducible refine bthen (by assumption) ?_ ?_)
        | go_size)
set_option maxHeartbeats 1000000 in
theorem specCarPull_c (A : Option Addr) (n c : Nat) (z : List Int) (f u x k : Int) (hz : z.length = n * 2) (hn : n ≤ 1048576) (w : World) (hr : RowI w A z) : Calls Try.prog 14 #[.agg #[.slice A n c, .int .i64 f, .int .i64 u], .int .i64 x, .int .i64 k] w fun e w' => e = .returned (.tuple #[.int .i64 (fCode (codeT z n f u x (inB k 0 100000)) (carI z n x k)).1, .int .i64 (fCode (codeT z n f u x (inB k 0 100000)) (carI z n x k)).2]) ∧ Below w.heap.size w w' := by
  obtain ⟨m, hm⟩ : ∃ m, (inB k 0 100000) = m := ⟨_, rfl⟩
  have hask : (inB k 0 100000 && inB 0 0 100000 && inB 0 0 20000) = m := by rw [← hm]; simp [inB]
  obtain ⟨code, hcode⟩ : ∃ code, codeT z n f u x m = code := ⟨_, rfl⟩
  rw [hm, hcode]
  by_cases hz0 : code = 0
  ·
    subst hz0
    obtain ⟨ht, hx, rfl⟩ := codeT_zero hcode
    have hk := hm
    obtain ⟨⟨n0, n1⟩, hs, ⟨L0, L1⟩, _⟩ := trackB_true ht
    obtain ⟨x0, x1⟩ := inB_true hx
    have x2 : x ≤ 3000000 := by omega
    obtain ⟨k0, k1⟩ := inB_true hk
    rw [show fCode 0 (carI z n x k) = (carI z n x k, 0) from rfl]
    go_enter Try.func14, Try.ntmps14
    go_wp2_with
      (first
        | (go_at_call 40; (apply Calls.mono; focus ((with_reducible apply (l07Ask_v (A := A) (c := c) hask hcode _ hz hn)); (all_goals (first | (with_reducible assumption) | omega | ((repeat (first | (with_reducible assumption) | (with_reducible refine RowI.drewN ?_ _) | (with_reducible refine RowI.drew ?_) | (with_reducible refine RowI.alloc ?_ _) | (with_reducible refine RowI.below ?_ (by with_reducible assumption)))); done) | assumption | (simp; done) | (simp [*]; done))); done)); rintro e w' ⟨rfl, nq, rfl⟩)
        | (go_at_call 41; (apply Calls.mono; focus ((with_reducible apply (l07Car_c A n c z _ _ _ hz n0 n1 hs x0 x2 k0 k1)); (all_goals (first | (with_reducible assumption) | omega | ((repeat (first | (with_reducible assumption) | (with_reducible refine RowI.drewN ?_ _) | (with_reducible refine RowI.drew ?_) | (with_reducible refine RowI.alloc ?_ _) | (with_reducible refine RowI.below ?_ (by with_reducible assumption)))); done) | assumption | (simp; done) | (simp [*]; done))); done)); rintro e w' ⟨rfl, nq, rfl⟩))
    go_returns
    refine ⟨rfl, ?_⟩
    repeat' (first
      | (with_reducible exact Below.refl _ _)
      | (with_reducible assumption)
      | (with_reducible refine Below.alloc ?_ ?_ _)
      | (with_reducible refine Below.drew ?_)
      | (with_reducible refine bdrewN ?_ _)
      | (with_reducible refine Below.setCell ?_ ?_ _)
      | (with_reducible refine bthen (by assumption) ?_ ?_)
      | go_size)
  ·
    have hne2 : (code != 0) = true := by simpa using hz0
    rw [show fCode code (carI z n x k) = (0, code) by rw [fCode, if_neg hz0]]
    go_enter Try.func14, Try.ntmps14
    go_wp2_with
      (first
        | (go_at_call 40; (apply Calls.mono; focus ((with_reducible apply (l07Ask_v (A := A) (c := c) hask hcode _ hz hn)); (all_goals (first | (with_reducible assumption) | omega | ((repeat (first | (with_reducible assumption) | (with_reducible refine RowI.drewN ?_ _) | (with_reducible refine RowI.drew ?_) | (with_reducible refine RowI.alloc ?_ _) | (with_reducible refine RowI.below ?_ (by with_reducible assumption)))); done) | assumption | (simp; done) | (simp [*]; done))); done)); rintro e w' ⟨rfl, nq, rfl⟩))
    go_returns
    refine ⟨rfl, ?_⟩
    repeat' (first
      | (with_reducible exact Below.refl _ _)
      | (with_reducible assumption)
      | (with_reducible refine Below.alloc ?_ ?_ _)
      | (with_reducible refine Below.drew ?_)
      | (with_reducible refine bdrewN ?_ _)
      | (with_reducible refine Below.setCell ?_ ?_ _)
      | (with_reducible refine bthen (by assumption) ?_ ?_)
      | go_size)
set_option maxHeartbeats 2000000 in
theorem walk_FnExactCarPull (A : Option Addr) (n c : Nat) (z : List Int) (f u : Int) (x : Int) (k : Int) (w : World) (h : StructArg 2 w A n z) (_ : I64 f) (_ : I64 u) (_ : I64 x) (_ : I64 k) : Calls Try.prog 3 #[.agg #[.slice A n c, .int .i64 f, .int .i64 u], .int .i64 x, .int .i64 k] w fun e w' => e = .returned (.bool true) ∧ Below w.heap.size w w' := by
  obtain ⟨hz, hmax, hr, _⟩ := h
  have HSZ := Lib.hid (szTrack_c A n c f u hmax)
  by_cases hn : n ≤ 1048576
  · rw [if_pos hn] at HSZ
    have hn1 : (0 : Int) ≤ 1048576 - n := by omega
    have tb0 := (TrackBox.new w 24 A n c f u)
    have hr0 := hr.alloc (.cells #[.slice A n c, .int .i64 f, .int .i64 u] 24)
    go_enter Try.func3, Try.ntmps3
    go_wp2_with (go_at_call 13; (refine (HSZ.out _).mono ?_); rintro e w1 ⟨rfl, hb1⟩; have tb1 := tb0.below hb1; have a10 := tb1.c0; have a11 := tb1.c1; have a12 := tb1.c2; have hr1 := hr0.below hb1)
    go_wp2_with (go_at_call 15; (refine (toTrack_c A n c z f u hz hn _ hr1).mono ?_); rintro e w2 ⟨B, rfl, hR2, hb2⟩; have tb2 := tb1.below hb2; have a20 := tb2.c0; have a21 := tb2.c1; have a22 := tb2.c2; have hr2 := hr1.below hb2)
    go_wp2_with (go_at_call 14; (refine (specCarPull_c B n n z f u _ _ hz hn _ hR2).mono ?_); rintro e w3 ⟨rfl, hb3⟩; have tb3 := tb2.below hb3; have a30 := tb3.c0; have a31 := tb3.c1; have a32 := tb3.c2; have hr3 := hr2.below hb3)
    go_wp2_with (go_at_call 15; (refine (toTrack_c A n c z f u hz hn _ hr3).mono ?_); rintro e w4 ⟨D, rfl, hR4, hb4⟩; have tb4 := (tb3.below hb4).alloc (.cells #[.slice D n n, .int .i64 f, .int .i64 u] 30); have hr4 := (hr3.below hb4).alloc (.cells #[.slice D n n, .int .i64 f, .int .i64 u] 30); have td4 := TrackBox.new w4 30 D n n f u; have hR4' := hR4.alloc (.cells #[.slice D n n, .int .i64 f, .int .i64 u] 30))
    go_wp2_with (go_at_call 16; (refine (implCarPull_c D n n z f u _ _ hz hn _ hR4').mono ?_); rintro e w5 ⟨rfl, hb5⟩; have tb5 := tb4.below hb5; have td5 := td4.below hb5; have hr5 := hr4.below hb5; have hR5 := hR4'.below hb5)
    have s0 := tb5.c0
    have s1 := tb5.c1
    have s2 := tb5.c2
    have s3 := tb5.lt
    have d0 := td5.c0
    have d1 := td5.c1
    have d2 := td5.c2
    have d3 := td5.lt
    have z1 : w.heap.size ≤ w1.heap.size := by have := hb1.size; simp only [World.size_alloc] at this; omega
    have z2 : w1.heap.size ≤ w2.heap.size := hb2.size
    have z3 : w2.heap.size ≤ w3.heap.size := hb3.size
    have z4 : w3.heap.size ≤ w4.heap.size := hb4.size
    have z5 : w4.heap.size ≤ w5.heap.size := by have := hb5.size; simp only [World.size_alloc] at this; omega
    have hB5 : Below w.heap.size w w5 := by
      repeat' (first
        | (with_reducible exact Below.refl _ _)
        | (with_reducible assumption)
        | (with_reducible refine Below.alloc ?_ ?_ _)
        | (with_reducible refine Below.drew ?_)
        | (with_reducible refine bdrewN ?_ _)
        | (with_reducible refine Below.setCell ?_ ?_ _)
        | (with_reducible refine bthen (by assumption) ?_ ?_)
        | go_size)
    clear tb0 tb1 tb2 tb3 tb4 tb5 td4 td5 hb1 hb2 hb3 hb4 hb5 a10 a11 a12 a20 a21 a22 a30 a31 a32 hr0 hr1 hr2 hr3 hr4 hR2 hR4 hR4'
    go_wp2
    first
      | go_region_held3 (fun w' => w'.cell? ⟨w.heap.size, 0, none⟩ = some (.slice A n c) ∧ w'.cell? ⟨w.heap.size, 1, none⟩ = some (.int .i64 f) ∧ w'.cell? ⟨w.heap.size, 2, none⟩ = some (.int .i64 u) ∧ w'.cell? ⟨w4.heap.size, 0, none⟩ = some (.slice D n n) ∧ w'.cell? ⟨w4.heap.size, 1, none⟩ = some (.int .i64 f) ∧ w'.cell? ⟨w4.heap.size, 2, none⟩ = some (.int .i64 u) ∧ w.heap.size < w'.heap.size ∧ w4.heap.size < w'.heap.size ∧ RowI w' A z ∧ RowI w' D z) (((try dsimp only at *); (try go_split_ands); (repeat' apply And.intro) <;> first | (with_reducible assumption) | (rw [qc _ _ (by with_reducible assumption)]; with_reducible assumption) | (with_reducible exact qz _ (by with_reducible assumption)) | (with_reducible exact RowI.below (by with_reducible assumption) (by with_reducible assumption)) | (simp [*, go_sem]; done) | omega | (refine RowI.drew ?_; simp [*]; done) | ((repeat (first | (with_reducible assumption) | (with_reducible refine RowI.drew ?_) | (with_reducible refine RowI.drewN ?_ _) | (with_reducible refine RowI.alloc ?_ _) | (with_reducible refine RowI.below ?_ (by with_reducible assumption)))); done) | (refine RowI.below ?_ (by assumption); first | (simp [*]; done) | (refine RowI.drew ?_; simp [*]; done))))
        (first
          | (go_at_call 15; (apply Calls.mono; focus ((with_reducible apply (toTrack_c A n c z f u hz hn)); (all_goals (first | (with_reducible assumption) | (simp [*]; done))); done)); rintro e w' ⟨B', rfl, hR', hb⟩; obtain ⟨qc, qf, qz, qs⟩ := bfacts hb; (try simp only [World.size_alloc, World.size_setCell, World.size_drew, World.heap_drewN] at qs))
          | (go_at_call 17; (apply Calls.mono; focus ((with_reducible apply (eqTrack_c _ _ n _ _ z f u hz hn)); (all_goals (first | (with_reducible assumption) | (simp [*]; done))); done)); rintro e w' ⟨rfl, hb⟩; obtain ⟨qc, qf, qz, qs⟩ := bfacts hb; (try simp only [World.size_alloc, World.size_setCell, World.size_drew, World.heap_drewN] at qs)))
      | fail
    go_wp2
    go_returns
    refine ⟨by simp, ?_⟩
    repeat' (first
      | (with_reducible exact Below.refl _ _)
      | (with_reducible assumption)
      | (with_reducible refine Below.alloc ?_ ?_ _)
      | (with_reducible refine Below.drew ?_)
      | (with_reducible refine bdrewN ?_ _)
      | (with_reducible refine Below.setCell ?_ ?_ _)
      | (with_reducible refine bthen (by assumption) ?_ ?_)
      | go_size)
  · rw [if_neg hn] at HSZ
    go_enter Try.func3, Try.ntmps3
    go_wp2_with (go_at_call 13; (refine (HSZ.out _).mono ?_); rintro e w1 ⟨rfl, hb1⟩)
    go_returns
    refine ⟨by simp, ?_⟩
    repeat' (first
      | (with_reducible exact Below.refl _ _)
      | (with_reducible assumption)
      | (with_reducible refine Below.alloc ?_ ?_ _)
      | (with_reducible refine Below.drew ?_)
      | (with_reducible refine bdrewN ?_ _)
      | (with_reducible refine Below.setCell ?_ ?_ _)
      | (with_reducible refine bthen (by assumption) ?_ ?_)
      | go_size)
set_option maxHeartbeats 4000000 in
theorem implRopePull_c (A : Option Addr) (n c : Nat) (z : List Int) (f u x r : Int) (hz : z.length = n * 2) (hn : n ≤ 1048576) (w : World) (hr : RowI w A z) : Calls Try.prog 19 #[.agg #[.slice A n c, .int .i64 f, .int .i64 u], .int .i64 x, .int .i64 r] w fun e w' => e = .returned (.tuple #[.int .i64 (fCode (codeT z n f u x (inB r 0 20000)) (ropI z n x r)).1, .int .i64 (fCode (codeT z n f u x (inB r 0 20000)) (ropI z n x r)).2]) ∧ Below w.heap.size w w' := by
  cases hr : inB r 0 20000
  ·
    have hm : (inB r 0 20000) = false := by simp [hr]
    obtain ⟨code, hcode⟩ : ∃ code, codeT z n f u x false = code := ⟨_, rfl⟩
    have hne : code ≠ 0 := by rw [← hcode]; exact codeT_false
    have hne2 : (code != 0) = true := by simpa using hne
    have HF := Lib.hid (show fCode (codeT z n f u x false) (ropI z n x r) = (0, code) by rw [hcode, fCode, if_neg hne])
    have HG := Lib.hid (show fCode (codeT z n f u x (false)) (ropI z n x r) = (0, code) by rw [show (false) = false by simp]; exact HF.out)
    rw [HG.out]
    go_enter Try.func19, Try.ntmps19
    go_wp2
    first
      | go_region_held3 (fun w' => w'.cell? ⟨w.heap.size, 0, none⟩ = some (.slice (A) n c) ∧ w'.cell? ⟨w.heap.size, 1, none⟩ = some (.int .i64 (f)) ∧ w'.cell? ⟨w.heap.size, 2, none⟩ = some (.int .i64 (u)) ∧ w.heap.size < w'.heap.size ∧ RowI w' (A) z) (((try dsimp only at *); (try go_split_ands); (repeat' apply And.intro) <;> first | (with_reducible assumption) | (rw [qc _ _ (by with_reducible assumption)]; with_reducible assumption) | (with_reducible exact qz _ (by with_reducible assumption)) | (with_reducible exact RowI.below (by with_reducible assumption) (by with_reducible assumption)) | (simp [*, go_sem]; done) | omega | (refine RowI.drew ?_; simp [*]; done) | ((repeat (first | (with_reducible assumption) | (with_reducible refine RowI.drew ?_) | (with_reducible refine RowI.drewN ?_ _) | (with_reducible refine RowI.alloc ?_ _) | (with_reducible refine RowI.below ?_ (by with_reducible assumption)))); done) | (refine RowI.below ?_ (by assumption); first | (simp [*]; done) | (refine RowI.drew ?_; simp [*]; done))))
          (first
            | (go_at_call 48; (apply Calls.mono; focus ((with_reducible apply (isRopeMass_v hr)); (all_goals (first | (with_reducible assumption) | omega | ((repeat (first | (with_reducible assumption) | (with_reducible refine RowI.drewN ?_ _) | (with_reducible refine RowI.drew ?_) | (with_reducible refine RowI.alloc ?_ _) | (with_reducible refine RowI.below ?_ (by with_reducible assumption)))); done) | assumption | (simp; done) | (simp [*]; done))); done)); rintro e w' ⟨rfl, rfl⟩)
            | (go_at_call 43; (apply Calls.mono; focus ((with_reducible apply (loaded_v hcode hz hn)); (all_goals (first | (with_reducible assumption) | omega | ((repeat (first | (with_reducible assumption) | (with_reducible refine RowI.drewN ?_ _) | (with_reducible refine RowI.drew ?_) | (with_reducible refine RowI.alloc ?_ _) | (with_reducible refine RowI.below ?_ (by with_reducible assumption)))); done) | assumption | (simp; done) | (simp [*]; done))); done)); rintro e w' ⟨rfl, hb⟩; obtain ⟨qc, qf, qz, qs⟩ := bfacts hb; (try simp only [World.size_alloc, World.size_setCell, World.size_drew, World.heap_drewN] at qs)))
      | fail
    go_wp2
    go_returns
    refine ⟨rfl, ?_⟩
    repeat' (first
      | (with_reducible exact Below.refl _ _)
      | (with_reducible assumption)
      | (with_reducible refine Below.alloc ?_ ?_ _)
      | (with_reducible refine Below.drew ?_)
      | (with_reducible refine bdrewN ?_ _)
      | (with_reducible refine Below.setCell ?_ ?_ _)
      | (with_reducible refine bthen (by assumption) ?_ ?_)
      | go_size)
  ·
    obtain ⟨code, hcode⟩ : ∃ code, codeT z n f u x true = code := ⟨_, rfl⟩
    rw [show (true) = true from rfl, hcode]
    by_cases hz0 : code = 0
    ·
      subst hz0
      obtain ⟨ht, hx, _⟩ := codeT_zero hcode
      obtain ⟨⟨n0, n1⟩, hs, ⟨L0, L1⟩, _⟩ := trackB_true ht
      obtain ⟨x0, x1⟩ := inB_true hx
      have x2 : x ≤ 3000000 := by omega
      obtain ⟨r0, r1⟩ := inB_true hr
      rw [show fCode 0 (ropI z n x r) = (ropI z n x r, 0) from rfl]
      go_enter Try.func19, Try.ntmps19
      go_wp2
      first
        | go_region_held3 (fun w' => w'.cell? ⟨w.heap.size, 0, none⟩ = some (.slice (A) n c) ∧ w'.cell? ⟨w.heap.size, 1, none⟩ = some (.int .i64 (f)) ∧ w'.cell? ⟨w.heap.size, 2, none⟩ = some (.int .i64 (u)) ∧ w.heap.size < w'.heap.size ∧ RowI w' (A) z) (((try dsimp only at *); (try go_split_ands); (repeat' apply And.intro) <;> first | (with_reducible assumption) | (rw [qc _ _ (by with_reducible assumption)]; with_reducible assumption) | (with_reducible exact qz _ (by with_reducible assumption)) | (with_reducible exact RowI.below (by with_reducible assumption) (by with_reducible assumption)) | (simp [*, go_sem]; done) | omega | (refine RowI.drew ?_; simp [*]; done) | ((repeat (first | (with_reducible assumption) | (with_reducible refine RowI.drew ?_) | (with_reducible refine RowI.drewN ?_ _) | (with_reducible refine RowI.alloc ?_ _) | (with_reducible refine RowI.below ?_ (by with_reducible assumption)))); done) | (refine RowI.below ?_ (by assumption); first | (simp [*]; done) | (refine RowI.drew ?_; simp [*]; done))))
            (first
              | (go_at_call 48; (apply Calls.mono; focus ((with_reducible apply (isRopeMass_v hr)); (all_goals (first | (with_reducible assumption) | omega | ((repeat (first | (with_reducible assumption) | (with_reducible refine RowI.drewN ?_ _) | (with_reducible refine RowI.drew ?_) | (with_reducible refine RowI.alloc ?_ _) | (with_reducible refine RowI.below ?_ (by with_reducible assumption)))); done) | assumption | (simp; done) | (simp [*]; done))); done)); rintro e w' ⟨rfl, rfl⟩)
              | (go_at_call 43; (apply Calls.mono; focus ((with_reducible apply (loaded_v hcode hz hn)); (all_goals (first | (with_reducible assumption) | omega | ((repeat (first | (with_reducible assumption) | (with_reducible refine RowI.drewN ?_ _) | (with_reducible refine RowI.drew ?_) | (with_reducible refine RowI.alloc ?_ _) | (with_reducible refine RowI.below ?_ (by with_reducible assumption)))); done) | assumption | (simp; done) | (simp [*]; done))); done)); rintro e w' ⟨rfl, hb⟩; obtain ⟨qc, qf, qz, qs⟩ := bfacts hb; (try simp only [World.size_alloc, World.size_setCell, World.size_drew, World.heap_drewN] at qs)))
        | fail
      go_wp2_with
        (first
          | (go_at_call 49; (apply Calls.mono; focus ((with_reducible apply (ropePull_c _ _ _ z _ _ _ _ hz n1 hs x0 x1 L1 r0 r1)); (all_goals (first | (with_reducible assumption) | omega | ((repeat (first | (with_reducible assumption) | (with_reducible refine RowI.drewN ?_ _) | (with_reducible refine RowI.drew ?_) | (with_reducible refine RowI.alloc ?_ _) | (with_reducible refine RowI.below ?_ (by with_reducible assumption)))); done) | assumption | (simp; done) | (simp [*]; done))); done)); rintro e w' ⟨rfl, hb⟩; obtain ⟨qc, qf, qz, qs⟩ := bfacts hb; (try simp only [World.size_alloc, World.size_setCell, World.size_drew, World.heap_drewN] at qs)))
      go_returns
      refine ⟨rfl, ?_⟩
      repeat' (first
        | (with_reducible exact Below.refl _ _)
        | (with_reducible assumption)
        | (with_reducible refine Below.alloc ?_ ?_ _)
        | (with_reducible refine Below.drew ?_)
        | (with_reducible refine bdrewN ?_ _)
        | (with_reducible refine Below.setCell ?_ ?_ _)
        | (with_reducible refine bthen (by assumption) ?_ ?_)
        | go_size)
    ·
      have hne2 : (code != 0) = true := by simpa using hz0
      rw [show fCode code (ropI z n x r) = (0, code) by rw [fCode, if_neg hz0]]
      go_enter Try.func19, Try.ntmps19
      go_wp2
      first
        | go_region_held3 (fun w' => w'.cell? ⟨w.heap.size, 0, none⟩ = some (.slice (A) n c) ∧ w'.cell? ⟨w.heap.size, 1, none⟩ = some (.int .i64 (f)) ∧ w'.cell? ⟨w.heap.size, 2, none⟩ = some (.int .i64 (u)) ∧ w.heap.size < w'.heap.size ∧ RowI w' (A) z) (((try dsimp only at *); (try go_split_ands); (repeat' apply And.intro) <;> first | (with_reducible assumption) | (rw [qc _ _ (by with_reducible assumption)]; with_reducible assumption) | (with_reducible exact qz _ (by with_reducible assumption)) | (with_reducible exact RowI.below (by with_reducible assumption) (by with_reducible assumption)) | (simp [*, go_sem]; done) | omega | (refine RowI.drew ?_; simp [*]; done) | ((repeat (first | (with_reducible assumption) | (with_reducible refine RowI.drew ?_) | (with_reducible refine RowI.drewN ?_ _) | (with_reducible refine RowI.alloc ?_ _) | (with_reducible refine RowI.below ?_ (by with_reducible assumption)))); done) | (refine RowI.below ?_ (by assumption); first | (simp [*]; done) | (refine RowI.drew ?_; simp [*]; done))))
            (first
              | (go_at_call 48; (apply Calls.mono; focus ((with_reducible apply (isRopeMass_v hr)); (all_goals (first | (with_reducible assumption) | omega | ((repeat (first | (with_reducible assumption) | (with_reducible refine RowI.drewN ?_ _) | (with_reducible refine RowI.drew ?_) | (with_reducible refine RowI.alloc ?_ _) | (with_reducible refine RowI.below ?_ (by with_reducible assumption)))); done) | assumption | (simp; done) | (simp [*]; done))); done)); rintro e w' ⟨rfl, rfl⟩)
              | (go_at_call 43; (apply Calls.mono; focus ((with_reducible apply (loaded_v hcode hz hn)); (all_goals (first | (with_reducible assumption) | omega | ((repeat (first | (with_reducible assumption) | (with_reducible refine RowI.drewN ?_ _) | (with_reducible refine RowI.drew ?_) | (with_reducible refine RowI.alloc ?_ _) | (with_reducible refine RowI.below ?_ (by with_reducible assumption)))); done) | assumption | (simp; done) | (simp [*]; done))); done)); rintro e w' ⟨rfl, hb⟩; obtain ⟨qc, qf, qz, qs⟩ := bfacts hb; (try simp only [World.size_alloc, World.size_setCell, World.size_drew, World.heap_drewN] at qs)))
        | fail
      go_wp2
      go_returns
      refine ⟨rfl, ?_⟩
      repeat' (first
        | (with_reducible exact Below.refl _ _)
        | (with_reducible assumption)
        | (with_reducible refine Below.alloc ?_ ?_ _)
        | (with_reducible refine Below.drew ?_)
        | (with_reducible refine bdrewN ?_ _)
        | (with_reducible refine Below.setCell ?_ ?_ _)
        | (with_reducible refine bthen (by assumption) ?_ ?_)
        | go_size)
set_option maxHeartbeats 1000000 in
theorem specRopePull_c (A : Option Addr) (n c : Nat) (z : List Int) (f u x r : Int) (hz : z.length = n * 2) (hn : n ≤ 1048576) (w : World) (hr : RowI w A z) : Calls Try.prog 18 #[.agg #[.slice A n c, .int .i64 f, .int .i64 u], .int .i64 x, .int .i64 r] w fun e w' => e = .returned (.tuple #[.int .i64 (fCode (codeT z n f u x (inB r 0 20000)) (ropI z n x r)).1, .int .i64 (fCode (codeT z n f u x (inB r 0 20000)) (ropI z n x r)).2]) ∧ Below w.heap.size w w' := by
  obtain ⟨m, hm⟩ : ∃ m, (inB r 0 20000) = m := ⟨_, rfl⟩
  have hask : (inB 0 0 100000 && inB 0 0 100000 && inB r 0 20000) = m := by rw [← hm]; simp [inB]
  obtain ⟨code, hcode⟩ : ∃ code, codeT z n f u x m = code := ⟨_, rfl⟩
  rw [hm, hcode]
  by_cases hz0 : code = 0
  ·
    subst hz0
    obtain ⟨ht, hx, rfl⟩ := codeT_zero hcode
    have hr := hm
    obtain ⟨⟨n0, n1⟩, hs, ⟨L0, L1⟩, _⟩ := trackB_true ht
    obtain ⟨x0, x1⟩ := inB_true hx
    have x2 : x ≤ 3000000 := by omega
    obtain ⟨r0, r1⟩ := inB_true hr
    rw [show fCode 0 (ropI z n x r) = (ropI z n x r, 0) from rfl]
    go_enter Try.func18, Try.ntmps18
    go_wp2_with
      (first
        | (go_at_call 40; (apply Calls.mono; focus ((with_reducible apply (l07Ask_v (A := A) (c := c) hask hcode _ hz hn)); (all_goals (first | (with_reducible assumption) | omega | ((repeat (first | (with_reducible assumption) | (with_reducible refine RowI.drewN ?_ _) | (with_reducible refine RowI.drew ?_) | (with_reducible refine RowI.alloc ?_ _) | (with_reducible refine RowI.below ?_ (by with_reducible assumption)))); done) | assumption | (simp; done) | (simp [*]; done))); done)); rintro e w' ⟨rfl, nq, rfl⟩)
        | (go_at_call 47; (apply Calls.mono; focus ((with_reducible apply (l07Above_c A n c z _ _ _ hz n1 hs x0 x1 L1 r0 r1)); (all_goals (first | (with_reducible assumption) | omega | ((repeat (first | (with_reducible assumption) | (with_reducible refine RowI.drewN ?_ _) | (with_reducible refine RowI.drew ?_) | (with_reducible refine RowI.alloc ?_ _) | (with_reducible refine RowI.below ?_ (by with_reducible assumption)))); done) | assumption | (simp; done) | (simp [*]; done))); done)); rintro e w' ⟨rfl, rfl⟩))
    go_returns
    refine ⟨rfl, ?_⟩
    repeat' (first
      | (with_reducible exact Below.refl _ _)
      | (with_reducible assumption)
      | (with_reducible refine Below.alloc ?_ ?_ _)
      | (with_reducible refine Below.drew ?_)
      | (with_reducible refine bdrewN ?_ _)
      | (with_reducible refine Below.setCell ?_ ?_ _)
      | (with_reducible refine bthen (by assumption) ?_ ?_)
      | go_size)
  ·
    have hne2 : (code != 0) = true := by simpa using hz0
    rw [show fCode code (ropI z n x r) = (0, code) by rw [fCode, if_neg hz0]]
    go_enter Try.func18, Try.ntmps18
    go_wp2_with
      (first
        | (go_at_call 40; (apply Calls.mono; focus ((with_reducible apply (l07Ask_v (A := A) (c := c) hask hcode _ hz hn)); (all_goals (first | (with_reducible assumption) | omega | ((repeat (first | (with_reducible assumption) | (with_reducible refine RowI.drewN ?_ _) | (with_reducible refine RowI.drew ?_) | (with_reducible refine RowI.alloc ?_ _) | (with_reducible refine RowI.below ?_ (by with_reducible assumption)))); done) | assumption | (simp; done) | (simp [*]; done))); done)); rintro e w' ⟨rfl, nq, rfl⟩))
    go_returns
    refine ⟨rfl, ?_⟩
    repeat' (first
      | (with_reducible exact Below.refl _ _)
      | (with_reducible assumption)
      | (with_reducible refine Below.alloc ?_ ?_ _)
      | (with_reducible refine Below.drew ?_)
      | (with_reducible refine bdrewN ?_ _)
      | (with_reducible refine Below.setCell ?_ ?_ _)
      | (with_reducible refine bthen (by assumption) ?_ ?_)
      | go_size)
set_option maxHeartbeats 2000000 in
theorem walk_FnExactRopePull (A : Option Addr) (n c : Nat) (z : List Int) (f u : Int) (x : Int) (r : Int) (w : World) (h : StructArg 2 w A n z) (_ : I64 f) (_ : I64 u) (_ : I64 x) (_ : I64 r) : Calls Try.prog 4 #[.agg #[.slice A n c, .int .i64 f, .int .i64 u], .int .i64 x, .int .i64 r] w fun e w' => e = .returned (.bool true) ∧ Below w.heap.size w w' := by
  obtain ⟨hz, hmax, hr, _⟩ := h
  have HSZ := Lib.hid (szTrack_c A n c f u hmax)
  by_cases hn : n ≤ 1048576
  · rw [if_pos hn] at HSZ
    have hn1 : (0 : Int) ≤ 1048576 - n := by omega
    have tb0 := (TrackBox.new w 24 A n c f u)
    have hr0 := hr.alloc (.cells #[.slice A n c, .int .i64 f, .int .i64 u] 24)
    go_enter Try.func4, Try.ntmps4
    go_wp2_with (go_at_call 13; (refine (HSZ.out _).mono ?_); rintro e w1 ⟨rfl, hb1⟩; have tb1 := tb0.below hb1; have a10 := tb1.c0; have a11 := tb1.c1; have a12 := tb1.c2; have hr1 := hr0.below hb1)
    go_wp2_with (go_at_call 15; (refine (toTrack_c A n c z f u hz hn _ hr1).mono ?_); rintro e w2 ⟨B, rfl, hR2, hb2⟩; have tb2 := tb1.below hb2; have a20 := tb2.c0; have a21 := tb2.c1; have a22 := tb2.c2; have hr2 := hr1.below hb2)
    go_wp2_with (go_at_call 18; (refine (specRopePull_c B n n z f u _ _ hz hn _ hR2).mono ?_); rintro e w3 ⟨rfl, hb3⟩; have tb3 := tb2.below hb3; have a30 := tb3.c0; have a31 := tb3.c1; have a32 := tb3.c2; have hr3 := hr2.below hb3)
    go_wp2_with (go_at_call 15; (refine (toTrack_c A n c z f u hz hn _ hr3).mono ?_); rintro e w4 ⟨D, rfl, hR4, hb4⟩; have tb4 := (tb3.below hb4).alloc (.cells #[.slice D n n, .int .i64 f, .int .i64 u] 30); have hr4 := (hr3.below hb4).alloc (.cells #[.slice D n n, .int .i64 f, .int .i64 u] 30); have td4 := TrackBox.new w4 30 D n n f u; have hR4' := hR4.alloc (.cells #[.slice D n n, .int .i64 f, .int .i64 u] 30))
    go_wp2_with (go_at_call 19; (refine (implRopePull_c D n n z f u _ _ hz hn _ hR4').mono ?_); rintro e w5 ⟨rfl, hb5⟩; have tb5 := tb4.below hb5; have td5 := td4.below hb5; have hr5 := hr4.below hb5; have hR5 := hR4'.below hb5)
    have s0 := tb5.c0
    have s1 := tb5.c1
    have s2 := tb5.c2
    have s3 := tb5.lt
    have d0 := td5.c0
    have d1 := td5.c1
    have d2 := td5.c2
    have d3 := td5.lt
    have z1 : w.heap.size ≤ w1.heap.size := by have := hb1.size; simp only [World.size_alloc] at this; omega
    have z2 : w1.heap.size ≤ w2.heap.size := hb2.size
    have z3 : w2.heap.size ≤ w3.heap.size := hb3.size
    have z4 : w3.heap.size ≤ w4.heap.size := hb4.size
    have z5 : w4.heap.size ≤ w5.heap.size := by have := hb5.size; simp only [World.size_alloc] at this; omega
    have hB5 : Below w.heap.size w w5 := by
      repeat' (first
        | (with_reducible exact Below.refl _ _)
        | (with_reducible assumption)
        | (with_reducible refine Below.alloc ?_ ?_ _)
        | (with_reducible refine Below.drew ?_)
        | (with_reducible refine bdrewN ?_ _)
        | (with_reducible refine Below.setCell ?_ ?_ _)
        | (with_reducible refine bthen (by assumption) ?_ ?_)
        | go_size)
    clear tb0 tb1 tb2 tb3 tb4 tb5 td4 td5 hb1 hb2 hb3 hb4 hb5 a10 a11 a12 a20 a21 a22 a30 a31 a32 hr0 hr1 hr2 hr3 hr4 hR2 hR4 hR4'
    go_wp2
    first
      | go_region_held3 (fun w' => w'.cell? ⟨w.heap.size, 0, none⟩ = some (.slice A n c) ∧ w'.cell? ⟨w.heap.size, 1, none⟩ = some (.int .i64 f) ∧ w'.cell? ⟨w.heap.size, 2, none⟩ = some (.int .i64 u) ∧ w'.cell? ⟨w4.heap.size, 0, none⟩ = some (.slice D n n) ∧ w'.cell? ⟨w4.heap.size, 1, none⟩ = some (.int .i64 f) ∧ w'.cell? ⟨w4.heap.size, 2, none⟩ = some (.int .i64 u) ∧ w.heap.size < w'.heap.size ∧ w4.heap.size < w'.heap.size ∧ RowI w' A z ∧ RowI w' D z) (((try dsimp only at *); (try go_split_ands); (repeat' apply And.intro) <;> first | (with_reducible assumption) | (rw [qc _ _ (by with_reducible assumption)]; with_reducible assumption) | (with_reducible exact qz _ (by with_reducible assumption)) | (with_reducible exact RowI.below (by with_reducible assumption) (by with_reducible assumption)) | (simp [*, go_sem]; done) | omega | (refine RowI.drew ?_; simp [*]; done) | ((repeat (first | (with_reducible assumption) | (with_reducible refine RowI.drew ?_) | (with_reducible refine RowI.drewN ?_ _) | (with_reducible refine RowI.alloc ?_ _) | (with_reducible refine RowI.below ?_ (by with_reducible assumption)))); done) | (refine RowI.below ?_ (by assumption); first | (simp [*]; done) | (refine RowI.drew ?_; simp [*]; done))))
        (first
          | (go_at_call 15; (apply Calls.mono; focus ((with_reducible apply (toTrack_c A n c z f u hz hn)); (all_goals (first | (with_reducible assumption) | (simp [*]; done))); done)); rintro e w' ⟨B', rfl, hR', hb⟩; obtain ⟨qc, qf, qz, qs⟩ := bfacts hb; (try simp only [World.size_alloc, World.size_setCell, World.size_drew, World.heap_drewN] at qs))
          | (go_at_call 17; (apply Calls.mono; focus ((with_reducible apply (eqTrack_c _ _ n _ _ z f u hz hn)); (all_goals (first | (with_reducible assumption) | (simp [*]; done))); done)); rintro e w' ⟨rfl, hb⟩; obtain ⟨qc, qf, qz, qs⟩ := bfacts hb; (try simp only [World.size_alloc, World.size_setCell, World.size_drew, World.heap_drewN] at qs)))
      | fail
    go_wp2
    go_returns
    refine ⟨by simp, ?_⟩
    repeat' (first
      | (with_reducible exact Below.refl _ _)
      | (with_reducible assumption)
      | (with_reducible refine Below.alloc ?_ ?_ _)
      | (with_reducible refine Below.drew ?_)
      | (with_reducible refine bdrewN ?_ _)
      | (with_reducible refine Below.setCell ?_ ?_ _)
      | (with_reducible refine bthen (by assumption) ?_ ?_)
      | go_size)
  · rw [if_neg hn] at HSZ
    go_enter Try.func4, Try.ntmps4
    go_wp2_with (go_at_call 13; (refine (HSZ.out _).mono ?_); rintro e w1 ⟨rfl, hb1⟩)
    go_returns
    refine ⟨by simp, ?_⟩
    repeat' (first
      | (with_reducible exact Below.refl _ _)
      | (with_reducible assumption)
      | (with_reducible refine Below.alloc ?_ ?_ _)
      | (with_reducible refine Below.drew ?_)
      | (with_reducible refine bdrewN ?_ _)
      | (with_reducible refine Below.setCell ?_ ?_ _)
      | (with_reducible refine bthen (by assumption) ?_ ?_)
      | go_size)
end Go.Proofs.Ytmkfkpfblnblgaa
