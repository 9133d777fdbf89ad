/- NumFits: the walk: for every int64 the call answers true and changes nothing. The callees by contracts of their own; the document's Fit by the printed one. -/
import Derived.Test.YtdfjbghmeoephaaPFitx1
import Derived.Test.YtdfjbghmeoephaaAid
import Derived.Lib.Hide
namespace Go.Proofs.Ytdfjbghmeoephaa.Fits
open Go.RowKit Go.Proofs.Ytdfjbghmeoephaa.Aid Go.Proofs.Ytdfjbghmeoephaa.PFit Go.Proofs.YtdfjbghmeoephaaW.PrintWords
set_option linter.unusedSimpArgs false

/-- What Fit tells, of a kind from lo to hi. -/
def fv (lo hi x : Int) : Int := if lo ≤ x ∧ x ≤ hi then x else 0
def fb (lo hi x : Int) : Bool := decide (lo ≤ x ∧ x ≤ hi)
theorem f_in {lo hi x : Int} (h : lo ≤ x ∧ x ≤ hi) : fv lo hi x = x ∧ fb lo hi x = true := ⟨if_pos h, decide_eq_true h⟩
theorem f_out {lo hi x : Int} (h : ¬ (lo ≤ x ∧ x ≤ hi)) : fv lo hi x = 0 ∧ fb lo hi x = false := ⟨if_neg h, decide_eq_false h⟩
theorem fv_small {lo hi x : Int} (h0 : lo ≤ 0) (h1 : 0 ≤ hi) : lo ≤ fv lo hi x ∧ fv lo hi x ≤ hi := by
  unfold fv; split <;> omega
theorem i8_iff (x : Int) : IntKind.i8.wrap x = x ↔ -128 ≤ x ∧ x ≤ 127 := by rw [i8_eq]; omega
theorem i16_iff (x : Int) : IntKind.i16.wrap x = x ↔ -32768 ≤ x ∧ x ≤ 32767 := by rw [i16_eq]; omega
theorem w32_iff (x : Int) : wrap32 x = x ↔ -2147483648 ≤ x ∧ x ≤ 2147483647 := by rw [w32_eq]; omega

theorem fit17 (x : Int) (w : World) (hx : -9223372036854775808 ≤ x ∧ x ≤ 9223372036854775807) : Calls Try.prog 17 #[.int .i64 x] w fun e w' => e = .returned (.tuple #[.int .i8 (fv (-128) 127 x), .bool (fb (-128) 127 x)]) ∧ w = w' := by
  have hw : wrap64 x = x := w64_in (by omega) (by omega)
  by_cases h : -128 ≤ x ∧ x ≤ 127
  · rw [(f_in h).1, (f_in h).2]
    have e := (i8_iff x).2 h
    have e' : (wrap64 x == x) = true := by rw [hw]; simp
    clear hx hw h
    go_enter Try.func17, Try.ntmps17
    go_wp2
    go_ret2
    exact ⟨by first | rfl | (simp [e]; done), rfl⟩
  · rw [(f_out h).1, (f_out h).2]
    have e : (wrap64 (IntKind.i8.wrap x) == x) = false := by
      rw [w64_i8]; simp only [beq_eq_false_iff_ne]; intro e; exact h ((i8_iff x).1 e)
    have e1 : (wrap64 (IntKind.i8.wrap x) == wrap64 x) = false := by rw [hw]; exact e
    clear h hx hw
    go_enter Try.func17, Try.ntmps17
    go_wp2
    go_ret2
    exact ⟨rfl, rfl⟩

theorem fit18 (x : Int) (w : World) (hx : -9223372036854775808 ≤ x ∧ x ≤ 9223372036854775807) : Calls Try.prog 18 #[.int .i64 x] w fun e w' => e = .returned (.tuple #[.int .i16 (fv (-32768) 32767 x), .bool (fb (-32768) 32767 x)]) ∧ w = w' := by
  have hw : wrap64 x = x := w64_in (by omega) (by omega)
  by_cases h : -32768 ≤ x ∧ x ≤ 32767
  · rw [(f_in h).1, (f_in h).2]
    have e := (i16_iff x).2 h
    have e' : (wrap64 x == x) = true := by rw [hw]; simp
    clear hx hw h
    go_enter Try.func18, Try.ntmps18
    go_wp2
    go_ret2
    exact ⟨by first | rfl | (simp [e]; done), rfl⟩
  · rw [(f_out h).1, (f_out h).2]
    have e : (wrap64 (IntKind.i16.wrap x) == x) = false := by
      rw [w64_i16]; simp only [beq_eq_false_iff_ne]; intro e; exact h ((i16_iff x).1 e)
    have e1 : (wrap64 (IntKind.i16.wrap x) == wrap64 x) = false := by rw [hw]; exact e
    clear h hx hw
    go_enter Try.func18, Try.ntmps18
    go_wp2
    go_ret2
    exact ⟨rfl, rfl⟩

theorem fit19 (x : Int) (w : World) (hx : -9223372036854775808 ≤ x ∧ x ≤ 9223372036854775807) : Calls Try.prog 19 #[.int .i64 x] w fun e w' => e = .returned (.tuple #[.int .i32 (fv (-2147483648) 2147483647 x), .bool (fb (-2147483648) 2147483647 x)]) ∧ w = w' := by
  have hw : wrap64 x = x := w64_in (by omega) (by omega)
  by_cases h : -2147483648 ≤ x ∧ x ≤ 2147483647
  · rw [(f_in h).1, (f_in h).2]
    have e := (w32_iff x).2 h
    have e' : (wrap64 x == x) = true := by rw [hw]; simp
    clear hx hw h
    go_enter Try.func19, Try.ntmps19
    go_wp2
    go_ret2
    exact ⟨by first | rfl | (simp [e]; done), rfl⟩
  · rw [(f_out h).1, (f_out h).2]
    have e : (wrap64 (wrap32 x) == x) = false := by
      rw [w64_w32]; simp only [beq_eq_false_iff_ne]; intro e; exact h ((w32_iff x).1 e)
    have e1 : (wrap64 (wrap32 x) == wrap64 x) = false := by rw [hw]; exact e
    clear h hx hw
    go_enter Try.func19, Try.ntmps19
    go_wp2
    go_ret2
    exact ⟨rfl, rfl⟩

theorem fit20 (x : Int) (w : World) (hx : -9223372036854775808 ≤ x ∧ x ≤ 9223372036854775807) : Calls Try.prog 20 #[.int .i64 x] w fun e w' => e = .returned (.tuple #[.int .i64 x, .bool true]) ∧ w = w' := by
  have _ := hx
  clear hx
  go_enter Try.func20, Try.ntmps20
  go_wp2
  go_ret2
  exact ⟨by first | rfl | (simp [e]; done), rfl⟩

theorem fit21 (x : Int) (w : World) (hx : -9223372036854775808 ≤ x ∧ x ≤ 9223372036854775807) : Calls Try.prog 21 #[.int .i64 x] w fun e w' => e = .returned (.tuple #[.int .i64 x, .bool true]) ∧ w = w' := by
  have _ := hx
  clear hx
  go_enter Try.func21, Try.ntmps21
  go_wp2
  go_ret2
  exact ⟨by first | rfl | (simp [e]; done), rfl⟩

theorem fit22 (x : Int) (w : World) (hx : -9223372036854775808 ≤ x ∧ x ≤ 9223372036854775807) : Calls Try.prog 22 #[.int .i64 x] w fun e w' => e = .returned (.tuple #[.int .i8 (fv (-128) 127 x), .bool (fb (-128) 127 x)]) ∧ w = w' := by
  have hw : wrap64 x = x := w64_in (by omega) (by omega)
  by_cases h : -128 ≤ x ∧ x ≤ 127
  · rw [(f_in h).1, (f_in h).2]
    have e := (i8_iff x).2 h
    have e' : (wrap64 x == x) = true := by rw [hw]; simp
    clear hx hw h
    go_enter Try.func22, Try.ntmps22
    go_wp2
    go_ret2
    exact ⟨by first | rfl | (simp [e]; done), rfl⟩
  · rw [(f_out h).1, (f_out h).2]
    have e : (wrap64 (IntKind.i8.wrap x) == x) = false := by
      rw [w64_i8]; simp only [beq_eq_false_iff_ne]; intro e; exact h ((i8_iff x).1 e)
    have e1 : (wrap64 (IntKind.i8.wrap x) == wrap64 x) = false := by rw [hw]; exact e
    clear h hx hw
    go_enter Try.func22, Try.ntmps22
    go_wp2
    go_ret2
    exact ⟨rfl, rfl⟩

theorem fit24 (x : Int) (w : World) (hx : -128 ≤ x ∧ x ≤ 127) : Calls Try.prog 24 #[.int .i8 x] w fun e w' => e = .returned (.tuple #[.int .i16 x, .bool true]) ∧ w = w' := by
  have e : IntKind.i16.wrap x = x := by exact (i16_iff x).2 (by omega)
  have e' : wrap64 x = x := w64_in (by omega) (by omega)
  have _ := hx
  clear hx
  go_enter Try.func24, Try.ntmps24
  go_wp2
  go_ret2
  exact ⟨by first | rfl | (simp [e]; done), rfl⟩

theorem fit25 (x : Int) (w : World) (hx : -32768 ≤ x ∧ x ≤ 32767) : Calls Try.prog 25 #[.int .i16 x] w fun e w' => e = .returned (.tuple #[.int .i8 (fv (-128) 127 x), .bool (fb (-128) 127 x)]) ∧ w = w' := by
  have hw : wrap64 x = x := w64_in (by omega) (by omega)
  by_cases h : -128 ≤ x ∧ x ≤ 127
  · rw [(f_in h).1, (f_in h).2]
    have e := (i8_iff x).2 h
    have e' : (wrap64 x == x) = true := by rw [hw]; simp
    clear hx hw h
    go_enter Try.func25, Try.ntmps25
    go_wp2
    go_ret2
    exact ⟨by first | rfl | (simp [e]; done), rfl⟩
  · rw [(f_out h).1, (f_out h).2]
    have e : (wrap64 (IntKind.i8.wrap x) == x) = false := by
      rw [w64_i8]; simp only [beq_eq_false_iff_ne]; intro e; exact h ((i8_iff x).1 e)
    have e1 : (wrap64 (IntKind.i8.wrap x) == wrap64 x) = false := by rw [hw]; exact e
    clear h hx hw
    go_enter Try.func25, Try.ntmps25
    go_wp2
    go_ret2
    exact ⟨rfl, rfl⟩

theorem fit26 (x : Int) (w : World) (hx : -2147483648 ≤ x ∧ x ≤ 2147483647) : Calls Try.prog 26 #[.int .i32 x] w fun e w' => e = .returned (.tuple #[.int .i16 (fv (-32768) 32767 x), .bool (fb (-32768) 32767 x)]) ∧ w = w' := by
  have hw : wrap64 x = x := w64_in (by omega) (by omega)
  by_cases h : -32768 ≤ x ∧ x ≤ 32767
  · rw [(f_in h).1, (f_in h).2]
    have e := (i16_iff x).2 h
    have e' : (wrap64 x == x) = true := by rw [hw]; simp
    clear hx hw h
    go_enter Try.func26, Try.ntmps26
    go_wp2
    go_ret2
    exact ⟨by first | rfl | (simp [e]; done), rfl⟩
  · rw [(f_out h).1, (f_out h).2]
    have e : (wrap64 (IntKind.i16.wrap x) == x) = false := by
      rw [w64_i16]; simp only [beq_eq_false_iff_ne]; intro e; exact h ((i16_iff x).1 e)
    have e1 : (wrap64 (IntKind.i16.wrap x) == wrap64 x) = false := by rw [hw]; exact e
    clear h hx hw
    go_enter Try.func26, Try.ntmps26
    go_wp2
    go_ret2
    exact ⟨rfl, rfl⟩

theorem fit27 (x : Int) (w : World) (hx : -32768 ≤ x ∧ x ≤ 32767) : Calls Try.prog 27 #[.int .i16 x] w fun e w' => e = .returned (.tuple #[.int .i32 x, .bool true]) ∧ w = w' := by
  have e : wrap32 x = x := by exact (w32_iff x).2 (by omega)
  have e' : wrap64 x = x := w64_in (by omega) (by omega)
  have _ := hx
  clear hx
  go_enter Try.func27, Try.ntmps27
  go_wp2
  go_ret2
  exact ⟨by first | rfl | (simp [e]; done), rfl⟩

theorem fit28 (x : Int) (w : World) (hx : -9223372036854775808 ≤ x ∧ x ≤ 9223372036854775807) : Calls Try.prog 28 #[.int .i64 x] w fun e w' => e = .returned (.tuple #[.int .i32 (fv (-2147483648) 2147483647 x), .bool (fb (-2147483648) 2147483647 x)]) ∧ w = w' := by
  have hw : wrap64 x = x := w64_in (by omega) (by omega)
  by_cases h : -2147483648 ≤ x ∧ x ≤ 2147483647
  · rw [(f_in h).1, (f_in h).2]
    have e := (w32_iff x).2 h
    have e' : (wrap64 x == x) = true := by rw [hw]; simp
    clear hx hw h
    go_enter Try.func28, Try.ntmps28
    go_wp2
    go_ret2
    exact ⟨by first | rfl | (simp [e]; done), rfl⟩
  · rw [(f_out h).1, (f_out h).2]
    have e : (wrap64 (wrap32 x) == x) = false := by
      rw [w64_w32]; simp only [beq_eq_false_iff_ne]; intro e; exact h ((w32_iff x).1 e)
    have e1 : (wrap64 (wrap32 x) == wrap64 x) = false := by rw [hw]; exact e
    clear h hx hw
    go_enter Try.func28, Try.ntmps28
    go_wp2
    go_ret2
    exact ⟨rfl, rfl⟩

theorem fit29 (x : Int) (w : World) (hx : -128 ≤ x ∧ x ≤ 127) : Calls Try.prog 29 #[.int .i8 x] w fun e w' => e = .returned (.tuple #[.int .i64 x, .bool true]) ∧ w = w' := by
  have e : wrap64 x = x := by rw [w64_in] <;> omega
  have _ := hx
  clear hx
  go_enter Try.func29, Try.ntmps29
  go_wp2
  go_ret2
  exact ⟨by first | rfl | (simp [e]; done), rfl⟩

theorem fit30 (x : Int) (w : World) (hx : -9223372036854775808 ≤ x ∧ x ≤ 9223372036854775807) : Calls Try.prog 30 #[.int .i64 x] w fun e w' => e = .returned (.tuple #[.int .i8 (fv (-128) 127 x), .bool (fb (-128) 127 x)]) ∧ w = w' := by
  have hw : wrap64 x = x := w64_in (by omega) (by omega)
  by_cases h : -128 ≤ x ∧ x ≤ 127
  · rw [(f_in h).1, (f_in h).2]
    have e := (i8_iff x).2 h
    have e' : (wrap64 x == x) = true := by rw [hw]; simp
    clear hx hw h
    go_enter Try.func30, Try.ntmps30
    go_wp2
    go_ret2
    exact ⟨by first | rfl | (simp [e]; done), rfl⟩
  · rw [(f_out h).1, (f_out h).2]
    have e : (wrap64 (IntKind.i8.wrap x) == x) = false := by
      rw [w64_i8]; simp only [beq_eq_false_iff_ne]; intro e; exact h ((i8_iff x).1 e)
    have e1 : (wrap64 (IntKind.i8.wrap x) == wrap64 x) = false := by rw [hw]; exact e
    clear h hx hw
    go_enter Try.func30, Try.ntmps30
    go_wp2
    go_ret2
    exact ⟨rfl, rfl⟩

theorem least8 : cabstandref01_Least.f 100 8 = some (-128) := by decide +kernel
theorem reff8 (x : Int) : cabstandref01_Fit.f 100 8 x = some (fv (-128) 127 x, fb (-128) 127 x) := by
  unfold cabstandref01_Fit.f cabstandref01_Holds.f fv fb
  rw [least8]
  simp only [Option.bind_some, show wrap64 (-1 - (-128)) = 127 by decide +kernel]
  by_cases h1 : -128 ≤ x <;> by_cases h2 : x ≤ 127 <;> simp [h1, h2]
theorem ref8 (x : Int) (w : World) : Calls Try.prog 23 #[.int .i64 8, .int .i64 x] w fun e w' => e = .returned (.tuple #[.int .i64 (fv (-128) 127 x), .bool (fb (-128) 127 x)]) ∧ Drawn0 w w' :=
  cabstandref01_Fit.calls 100 8 x _ _ w (reff8 x)

theorem least16 : cabstandref01_Least.f 100 16 = some (-32768) := by decide +kernel
theorem reff16 (x : Int) : cabstandref01_Fit.f 100 16 x = some (fv (-32768) 32767 x, fb (-32768) 32767 x) := by
  unfold cabstandref01_Fit.f cabstandref01_Holds.f fv fb
  rw [least16]
  simp only [Option.bind_some, show wrap64 (-1 - (-32768)) = 32767 by decide +kernel]
  by_cases h1 : -32768 ≤ x <;> by_cases h2 : x ≤ 32767 <;> simp [h1, h2]
theorem ref16 (x : Int) (w : World) : Calls Try.prog 23 #[.int .i64 16, .int .i64 x] w fun e w' => e = .returned (.tuple #[.int .i64 (fv (-32768) 32767 x), .bool (fb (-32768) 32767 x)]) ∧ Drawn0 w w' :=
  cabstandref01_Fit.calls 100 16 x _ _ w (reff16 x)

theorem least32 : cabstandref01_Least.f 100 32 = some (-2147483648) := by decide +kernel
theorem reff32 (x : Int) : cabstandref01_Fit.f 100 32 x = some (fv (-2147483648) 2147483647 x, fb (-2147483648) 2147483647 x) := by
  unfold cabstandref01_Fit.f cabstandref01_Holds.f fv fb
  rw [least32]
  simp only [Option.bind_some, show wrap64 (-1 - (-2147483648)) = 2147483647 by decide +kernel]
  by_cases h1 : -2147483648 ≤ x <;> by_cases h2 : x ≤ 2147483647 <;> simp [h1, h2]
theorem ref32 (x : Int) (w : World) : Calls Try.prog 23 #[.int .i64 32, .int .i64 x] w fun e w' => e = .returned (.tuple #[.int .i64 (fv (-2147483648) 2147483647 x), .bool (fb (-2147483648) 2147483647 x)]) ∧ Drawn0 w w' :=
  cabstandref01_Fit.calls 100 32 x _ _ w (reff32 x)

set_option maxHeartbeats 4000000 in
set_option maxRecDepth 100000 in
theorem walkNumFits (x : Int) (w : World) (hwf : (Lit.int .i64 x).wf = true) : Calls Try.prog 4 #[.int .i64 x] w fun e w' => e = .returned (.bool true) ∧ Below w.heap.size w w' := by
  have hx := wf64 hwf
  have ni8 : (fv (-128) 127 x != fv (-128) 127 x) = false := by simp
  have mi8 : (fv (-128) 127 x == fv (-128) 127 x) = true := by simp
  have pi8 : (fb (-128) 127 x != fb (-128) 127 x) = false := by simp
  have qi8 : (fb (-128) 127 x == fb (-128) 127 x) = true := by simp
  have ni16 : (fv (-32768) 32767 x != fv (-32768) 32767 x) = false := by simp
  have mi16 : (fv (-32768) 32767 x == fv (-32768) 32767 x) = true := by simp
  have pi16 : (fb (-32768) 32767 x != fb (-32768) 32767 x) = false := by simp
  have qi16 : (fb (-32768) 32767 x == fb (-32768) 32767 x) = true := by simp
  have ni32 : (fv (-2147483648) 2147483647 x != fv (-2147483648) 2147483647 x) = false := by simp
  have mi32 : (fv (-2147483648) 2147483647 x == fv (-2147483648) 2147483647 x) = true := by simp
  have pi32 : (fb (-2147483648) 2147483647 x != fb (-2147483648) 2147483647 x) = false := by simp
  have qi32 : (fb (-2147483648) 2147483647 x == fb (-2147483648) 2147483647 x) = true := by simp
  have xx : (x == x) = true := by simp
  have e1 : wrap64 (fv (-128) 127 x) = fv (-128) 127 x := by have := fv_small (lo := -128) (hi := 127) (x := x) (by omega) (by omega); exact w64_in (by omega) (by omega)
  have e2 : wrap64 (fv (-32768) 32767 x) = fv (-32768) 32767 x := by have := fv_small (lo := -32768) (hi := 32767) (x := x) (by omega) (by omega); exact w64_in (by omega) (by omega)
  have e3 : wrap64 (fv (-2147483648) 2147483647 x) = fv (-2147483648) 2147483647 x := by have := fv_small (lo := -2147483648) (hi := 2147483647) (x := x) (by omega) (by omega); exact w64_in (by omega) (by omega)
  clear hwf
  have HX := Lib.hid hx
  clear hx
  go_enter Try.func4, Try.ntmps4
  go_wp2_with (first | (go_at_call 17; (with_reducible refine (fit17 x _ HX.out).mono ?_); rintro e w' ⟨rfl, rfl⟩) | (go_at_call 18; (with_reducible refine (fit18 x _ HX.out).mono ?_); rintro e w' ⟨rfl, rfl⟩) | (go_at_call 19; (with_reducible refine (fit19 x _ HX.out).mono ?_); rintro e w' ⟨rfl, rfl⟩) | (go_at_call 20; (with_reducible refine (fit20 x _ HX.out).mono ?_); rintro e w' ⟨rfl, rfl⟩) | (go_at_call 21; (with_reducible refine (fit21 x _ HX.out).mono ?_); rintro e w' ⟨rfl, rfl⟩) | (go_at_call 22; (with_reducible refine (fit22 x _ HX.out).mono ?_); rintro e w' ⟨rfl, rfl⟩) | (go_at_call 23; (with_reducible refine (ref8 x _).mono ?_); rintro e w' ⟨rfl, ⟨nd, rfl⟩⟩) | (go_at_call 23; (with_reducible refine (ref16 x _).mono ?_); rintro e w' ⟨rfl, ⟨nd, rfl⟩⟩) | (go_at_call 23; (with_reducible refine (ref32 x _).mono ?_); rintro e w' ⟨rfl, ⟨nd, rfl⟩⟩))
  go_ret
  exact ⟨by first | rfl | (simp; done), Drawn0.below (by repeat (first | exact Drawn0.refl _ | apply Drawn0.step))⟩

set_option maxHeartbeats 4000000 in
set_option maxRecDepth 100000 in
theorem walkNumCrosses (x : Int) (w : World) (hwf : (Lit.int .i64 x).wf = true) : Calls Try.prog 5 #[.int .i64 x] w fun e w' => e = .returned (.bool true) ∧ Below w.heap.size w w' := by
  have hx := wf64 hwf
  have ni8a : (fv (-128) 127 (IntKind.i16.wrap x) != fv (-128) 127 (IntKind.i16.wrap x)) = false := by simp
  have mi8a : (fv (-128) 127 (IntKind.i16.wrap x) == fv (-128) 127 (IntKind.i16.wrap x)) = true := by simp
  have pi8a : (fb (-128) 127 (IntKind.i16.wrap x) != fb (-128) 127 (IntKind.i16.wrap x)) = false := by simp
  have qi8a : (fb (-128) 127 (IntKind.i16.wrap x) == fb (-128) 127 (IntKind.i16.wrap x)) = true := by simp
  have ni16b : (fv (-32768) 32767 (wrap32 x) != fv (-32768) 32767 (wrap32 x)) = false := by simp
  have mi16b : (fv (-32768) 32767 (wrap32 x) == fv (-32768) 32767 (wrap32 x)) = true := by simp
  have pi16b : (fb (-32768) 32767 (wrap32 x) != fb (-32768) 32767 (wrap32 x)) = false := by simp
  have qi16b : (fb (-32768) 32767 (wrap32 x) == fb (-32768) 32767 (wrap32 x)) = true := by simp
  have ni32c : (fv (-2147483648) 2147483647 x != fv (-2147483648) 2147483647 x) = false := by simp
  have mi32c : (fv (-2147483648) 2147483647 x == fv (-2147483648) 2147483647 x) = true := by simp
  have pi32c : (fb (-2147483648) 2147483647 x != fb (-2147483648) 2147483647 x) = false := by simp
  have qi32c : (fb (-2147483648) 2147483647 x == fb (-2147483648) 2147483647 x) = true := by simp
  have ni8d : (fv (-128) 127 x != fv (-128) 127 x) = false := by simp
  have mi8d : (fv (-128) 127 x == fv (-128) 127 x) = true := by simp
  have pi8d : (fb (-128) 127 x != fb (-128) 127 x) = false := by simp
  have qi8d : (fb (-128) 127 x == fb (-128) 127 x) = true := by simp
  have era : wrap64 (fv (-128) 127 (IntKind.i16.wrap x)) = fv (-128) 127 (IntKind.i16.wrap x) := by have := fv_small (lo := -128) (hi := 127) (x := (IntKind.i16.wrap x)) (by omega) (by omega); exact w64_in (by omega) (by omega)
  have erb : wrap64 (fv (-32768) 32767 (wrap32 x)) = fv (-32768) 32767 (wrap32 x) := by have := fv_small (lo := -32768) (hi := 32767) (x := (wrap32 x)) (by omega) (by omega); exact w64_in (by omega) (by omega)
  have erc : wrap64 (fv (-2147483648) 2147483647 x) = fv (-2147483648) 2147483647 x := by have := fv_small (lo := -2147483648) (hi := 2147483647) (x := x) (by omega) (by omega); exact w64_in (by omega) (by omega)
  have erd : wrap64 (fv (-128) 127 x) = fv (-128) 127 x := by have := fv_small (lo := -128) (hi := 127) (x := x) (by omega) (by omega); exact w64_in (by omega) (by omega)
  have k1 : IntKind.i16.wrap (IntKind.i8.wrap x) = IntKind.i8.wrap x := by rw [i16_eq, i8_eq]; omega
  have k2 : wrap32 (IntKind.i16.wrap x) = IntKind.i16.wrap x := by rw [w32_eq, i16_eq]; omega
  have k3 := w64_i8 x
  have k4 := w64_i16 x
  have k5 := w64_w32 x
  have k6 : (IntKind.i8.wrap x != IntKind.i8.wrap x) = false := by simp
  have k7 : (IntKind.i16.wrap x == IntKind.i16.wrap x) = true := by simp
  have k8 : (IntKind.i8.wrap x == IntKind.i8.wrap x) = true := by simp
  have H8 := Lib.hid (show -128 ≤ IntKind.i8.wrap x ∧ IntKind.i8.wrap x ≤ 127 by rw [i8_eq]; omega)
  have H16 := Lib.hid (show -32768 ≤ IntKind.i16.wrap x ∧ IntKind.i16.wrap x ≤ 32767 by rw [i16_eq]; omega)
  have H32 := Lib.hid (show -2147483648 ≤ wrap32 x ∧ wrap32 x ≤ 2147483647 by rw [w32_eq]; omega)
  clear hwf
  have HX := Lib.hid hx
  clear hx
  go_enter Try.func5, Try.ntmps5
  go_wp2_with (first | (go_at_call 24; (with_reducible refine (fit24 (IntKind.i8.wrap x) _ H8.out).mono ?_); rintro e w' ⟨rfl, rfl⟩) | (go_at_call 25; (with_reducible refine (fit25 (IntKind.i16.wrap x) _ H16.out).mono ?_); rintro e w' ⟨rfl, rfl⟩) | (go_at_call 26; (with_reducible refine (fit26 (wrap32 x) _ H32.out).mono ?_); rintro e w' ⟨rfl, rfl⟩) | (go_at_call 27; (with_reducible refine (fit27 (IntKind.i16.wrap x) _ H16.out).mono ?_); rintro e w' ⟨rfl, rfl⟩) | (go_at_call 28; (with_reducible refine (fit28 x _ HX.out).mono ?_); rintro e w' ⟨rfl, rfl⟩) | (go_at_call 29; (with_reducible refine (fit29 (IntKind.i8.wrap x) _ H8.out).mono ?_); rintro e w' ⟨rfl, rfl⟩) | (go_at_call 30; (with_reducible refine (fit30 x _ HX.out).mono ?_); rintro e w' ⟨rfl, rfl⟩) | (go_at_call 23; (with_reducible refine (ref8 (IntKind.i16.wrap x) _).mono ?_); rintro e w' ⟨rfl, ⟨nd, rfl⟩⟩) | (go_at_call 23; (with_reducible refine (ref16 (wrap32 x) _).mono ?_); rintro e w' ⟨rfl, ⟨nd, rfl⟩⟩) | (go_at_call 23; (with_reducible refine (ref32 x _).mono ?_); rintro e w' ⟨rfl, ⟨nd, rfl⟩⟩) | (go_at_call 23; (with_reducible refine (ref8 x _).mono ?_); rintro e w' ⟨rfl, ⟨nd, rfl⟩⟩))
  go_ret
  exact ⟨by first | rfl | (simp; done), Drawn0.below (by repeat (first | exact Drawn0.refl _ | apply Drawn0.step))⟩

end Go.Proofs.Ytdfjbghmeoephaa.Fits
