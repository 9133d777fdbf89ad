/- The walk of FareSteps, and the law. -/
import Derived.Test.YtfehdajjnbehdaaStepsP
import Derived.Test.YtfehdajjnbehdaaAliveR
import Derived.Test.YtfehdajjnbehdaaHas
import Derived.Test.YtfehdajjnbehdaaTypes3
namespace Go.Proofs.Ytfehdajjnbehdaa.Steps
open Go.RowKit Go.Proofs.Ytfehdajjnbehdaa.Aid Go.Proofs.Ytfehdajjnbehdaa.Mem Go.Proofs.Ytfehdajjnbehdaa.Fl Go.Proofs.Ytfehdajjnbehdaa.Surge Go.Proofs.Ytfehdajjnbehdaa.Round Go.Proofs.Ytfehdajjnbehdaa.AliveR Go.Proofs.Ytfehdajjnbehdaa.Has Go.Proofs.Ytfehdajjnbehdaa.Keep Go.Proofs.Ytfehdajjnbehdaa.Types Go.Proofs.Ytfehdajjnbehdaa.Price
open Ieee (double Toward Format)
set_option linter.unusedSimpArgs false
set_option linter.unusedVariables false
set_option maxRecDepth 100000
theorem number_c (n : Int) (w : World) : Calls Try.prog 17 #[.int .i64 n] w fun e w' => e = .returned (.bool (decide (0 ≤ n ∧ n ≤ 4611686018427387903))) ∧ w = w' := by
  go_enter Try.func17, Try.ntmps17
  by_cases h1 : 0 ≤ n <;> by_cases h2 : n ≤ 4611686018427387903 <;> (go_wp2; go_ret; refine ⟨?_, rfl⟩; simp [h1, h2])
theorem number_t (n : Int) (w : World) (h : Nu n) : Calls Try.prog 17 #[.int .i64 n] w fun e w' => e = .returned (.bool true) ∧ w = w' := by
  refine (number_c n w).mono fun e w' ⟨h', k⟩ => ⟨?_, k⟩
  rw [h', decide_eq_true (p := 0 ≤ n ∧ n ≤ 4611686018427387903) h]
theorem number_f (n : Int) (w : World) (h : ¬ Nu n) : Calls Try.prog 17 #[.int .i64 n] w fun e w' => e = .returned (.bool false) ∧ w = w' := by
  refine (number_c n w).mono fun e w' ⟨h', k⟩ => ⟨?_, k⟩
  rw [h', decide_eq_false (p := 0 ≤ n ∧ n ≤ 4611686018427387903) h]
theorem surge_v (a b : Int) (v : Nat) (e : Int) (w : World) (h : Hid (Sur a b v e)) : Calls Try.prog 10 #[.int .i64 a, .int .i64 b] w fun x w' => x = .returned (.tuple #[.float .f64 v, .int .i64 e]) ∧ w = w' := surge_c a b v e w h.out
abbrev L4 (a c b d : Int) : List Value := [.int .i64 a, .int .i64 c, .int .i64 b, .int .i64 d]
section
variable {w0 w : World} {a c b d : Int}
theorem c0 (h : Has w0 [(w0.heap.size, 40, L4 a c b d)] w) : w.cell? ⟨w0.heap.size, 0, none⟩ = some (.int .i64 a) := (Has.cell h (t := 40) (l := L4 a c b d) (by simp) 0).trans rfl
theorem c1 (h : Has w0 [(w0.heap.size, 40, L4 a c b d)] w) : w.cell? ⟨w0.heap.size, 1, none⟩ = some (.int .i64 c) := (Has.cell h (t := 40) (l := L4 a c b d) (by simp) 1).trans rfl
theorem c2 (h : Has w0 [(w0.heap.size, 40, L4 a c b d)] w) : w.cell? ⟨w0.heap.size, 2, none⟩ = some (.int .i64 b) := (Has.cell h (t := 40) (l := L4 a c b d) (by simp) 2).trans rfl
theorem c3 (h : Has w0 [(w0.heap.size, 40, L4 a c b d)] w) : w.cell? ⟨w0.heap.size, 3, none⟩ = some (.int .i64 d) := (Has.cell h (t := 40) (l := L4 a c b d) (by simp) 3).trans rfl
end
theorem start (w : World) (a c b d : Int) : Has w [(w.heap.size, 40, L4 a c b d)] (w.alloc (.cells #[.int .i64 a, .int .i64 c, .int .i64 b, .int .i64 d] 40)) := (Has.nil w).new 40 (L4 a c b d)
theorem zero_cmp : (FloatKind.f64.format.order 0 0 == some .eq) = true := by decide +kernel
set_option maxHeartbeats 8000000 in
theorem steps_bad1 (a c b d : Int) (w : World) (v : Nat) (e : Int) (ha : ¬ Nu a) (H1 : Hid (Sur a b 0 1)) (H2 : Hid (Sur c d v e)) :
    Calls Try.prog 6 #[.agg #[.int .i64 a, .int .i64 c, .int .i64 b, .int .i64 d]] w fun e w' => e = .returned (.bool true) ∧ Below w.heap.size w w' := by
  have k := start w a c b d
  have x0 := c0 k
  have x1 := c1 k
  have x2 := c2 k
  have x3 := c3 k
  have z := zero_cmp
  go_enter Try.func6, Try.ntmps6
  go_wp2_with (first | (go_at_call 10; (with_reducible refine (surge_v a b 0 1 _ H1).mono ?_); rintro e w' ⟨rfl, rfl⟩) | (go_at_call 10; (with_reducible refine (surge_v c d v e _ H2).mono ?_); rintro e w' ⟨rfl, rfl⟩) | (go_at_call 17; (with_reducible refine (number_f a _ ha).mono ?_); rintro e w' ⟨rfl, rfl⟩) | (go_at_call 16; with_reducible refine (alive_c _).mono ?_; rintro e4 w4 ⟨rfl, hb⟩; replace k := Has.keep k hb; replace x0 := c0 k; replace x1 := c1 k; replace x2 := c2 k; replace x3 := c3 k; clear hb))
  go_ret
  exact ⟨by simp, k.2⟩
set_option maxHeartbeats 8000000 in
theorem steps_bad2 (a c b d : Int) (w : World) (v : Nat) (e : Int) (ha : Nu a) (hb : ¬ Nu b) (H1 : Hid (Sur a b 0 1)) (H2 : Hid (Sur c d v e)) :
    Calls Try.prog 6 #[.agg #[.int .i64 a, .int .i64 c, .int .i64 b, .int .i64 d]] w fun e w' => e = .returned (.bool true) ∧ Below w.heap.size w w' := by
  have k := start w a c b d
  have x0 := c0 k
  have x1 := c1 k
  have x2 := c2 k
  have x3 := c3 k
  have z := zero_cmp
  go_enter Try.func6, Try.ntmps6
  go_wp2_with (first | (go_at_call 10; (with_reducible refine (surge_v a b 0 1 _ H1).mono ?_); rintro e w' ⟨rfl, rfl⟩) | (go_at_call 10; (with_reducible refine (surge_v c d v e _ H2).mono ?_); rintro e w' ⟨rfl, rfl⟩) | (go_at_call 17; (with_reducible refine (number_t a _ ha).mono ?_); rintro e w' ⟨rfl, rfl⟩) | (go_at_call 17; (with_reducible refine (number_f b _ hb).mono ?_); rintro e w' ⟨rfl, rfl⟩) | (go_at_call 16; with_reducible refine (alive_c _).mono ?_; rintro e4 w4 ⟨rfl, hb⟩; replace k := Has.keep k hb; replace x0 := c0 k; replace x1 := c1 k; replace x2 := c2 k; replace x3 := c3 k; clear hb))
  go_ret
  exact ⟨by simp, k.2⟩
theorem step_fl : ∀ i : Fin 9, floatBits .mul .f64 4616189618054758400 (stepB i.val) = some (floatOfInt .f64 ((i.val : Int) + 4)) ∧ floatToIntVal .f64 (floatOfInt .f64 ((i.val : Int) + 4)) .i64 = some ((i.val : Int) + 4) ∧ (FloatKind.f64.format.order (floatOfInt .f64 ((i.val : Int) + 4)) (floatOfInt .f64 ((i.val : Int) + 4)) != some .eq) = false := by decide +kernel
theorem step_cmp : ∀ i j : Fin 9, (FloatKind.f64.format.order (stepB j.val) (stepB i.val) == some .lt) = decide (j.val < i.val) ∧ (FloatKind.f64.format.order (stepB j.val) (stepB i.val) == some .gt) = decide (i.val < j.val) := by decide +kernel
/-- What the walk wants of the step i. -/
structure Fl (i : Nat) : Prop where
  mul : ∀ t w, (binOp .mul t (.float .f64 4616189618054758400) (.float .f64 (stepB i))).run Try.prog w = .ok (.float .f64 (floatOfInt .f64 ((i : Int) + 4))) w
  cv : ∀ w, (convert 22 3 (.float .f64 (floatOfInt .f64 ((i : Int) + 4)))).run Try.prog w = .ok (.int .i64 ((i : Int) + 4)) w
  eq : (FloatKind.f64.format.order (floatOfInt .f64 ((i : Int) + 4)) (floatOfInt .f64 ((i : Int) + 4)) != some .eq) = false
  b1 : decide ((i : Int) + 4 < 4) = false
  b2 : decide (12 < (i : Int) + 4) = false
theorem Fl.of {i : Nat} (h : i ≤ 8) : Fl i := by
  obtain ⟨s1, s2, s3⟩ := step_fl ⟨i, by omega⟩
  exact ⟨fun t w => run_float_arith w .mul t .f64 _ _ _ s1, fun w => run_convert_float_int w _ _ .f64 .i64 _ _ (by rw [Try.underlying22]; rfl) Try.underlying3 s2, s3, decide_eq_false (by omega), decide_eq_false (by omega)⟩
set_option maxHeartbeats 8000000 in
theorem steps_bad3 (a c b d : Int) (w : World) (i : Nat) (ha : Nu a) (hb : Nu b) (H1 : Hid (Sur a b (stepB i) 0)) (f : Fl i) (hc : ¬ Nu c) (H2 : Hid (Sur c d 0 1)) :
    Calls Try.prog 6 #[.agg #[.int .i64 a, .int .i64 c, .int .i64 b, .int .i64 d]] w fun e w' => e = .returned (.bool true) ∧ Below w.heap.size w w' := by
  obtain ⟨f1, f2, f3, f4, f5⟩ := f
  have k := start w a c b d
  have x0 := c0 k
  have x1 := c1 k
  have x2 := c2 k
  have x3 := c3 k
  have z := zero_cmp
  go_enter Try.func6, Try.ntmps6
  go_wp2_with (first | (go_at_call 10; (with_reducible refine (surge_v a b (stepB i) 0 _ H1).mono ?_); rintro e w' ⟨rfl, rfl⟩) | (go_at_call 10; (with_reducible refine (surge_v c d 0 1 _ H2).mono ?_); rintro e w' ⟨rfl, rfl⟩) | (go_at_call 17; (with_reducible refine (number_t a _ ha).mono ?_); rintro e w' ⟨rfl, rfl⟩) | (go_at_call 17; (with_reducible refine (number_t b _ hb).mono ?_); rintro e w' ⟨rfl, rfl⟩) | (go_at_call 17; (with_reducible refine (number_f c _ hc).mono ?_); rintro e w' ⟨rfl, rfl⟩) | (go_at_call 16; with_reducible refine (alive_c _).mono ?_; rintro e4 w4 ⟨rfl, hb⟩; replace k := Has.keep k hb; replace x0 := c0 k; replace x1 := c1 k; replace x2 := c2 k; replace x3 := c3 k; clear hb))
  go_ret
  exact ⟨by simp, k.2⟩
set_option maxHeartbeats 8000000 in
theorem steps_bad4 (a c b d : Int) (w : World) (i : Nat) (ha : Nu a) (hb : Nu b) (H1 : Hid (Sur a b (stepB i) 0)) (f : Fl i) (hc : Nu c) (hd : ¬ Nu d) (H2 : Hid (Sur c d 0 1)) :
    Calls Try.prog 6 #[.agg #[.int .i64 a, .int .i64 c, .int .i64 b, .int .i64 d]] w fun e w' => e = .returned (.bool true) ∧ Below w.heap.size w w' := by
  obtain ⟨f1, f2, f3, f4, f5⟩ := f
  have k := start w a c b d
  have x0 := c0 k
  have x1 := c1 k
  have x2 := c2 k
  have x3 := c3 k
  have z := zero_cmp
  go_enter Try.func6, Try.ntmps6
  go_wp2_with (first | (go_at_call 10; (with_reducible refine (surge_v a b (stepB i) 0 _ H1).mono ?_); rintro e w' ⟨rfl, rfl⟩) | (go_at_call 10; (with_reducible refine (surge_v c d 0 1 _ H2).mono ?_); rintro e w' ⟨rfl, rfl⟩) | (go_at_call 17; (with_reducible refine (number_t a _ ha).mono ?_); rintro e w' ⟨rfl, rfl⟩) | (go_at_call 17; (with_reducible refine (number_t b _ hb).mono ?_); rintro e w' ⟨rfl, rfl⟩) | (go_at_call 17; (with_reducible refine (number_t c _ hc).mono ?_); rintro e w' ⟨rfl, rfl⟩) | (go_at_call 17; (with_reducible refine (number_f d _ hd).mono ?_); rintro e w' ⟨rfl, rfl⟩) | (go_at_call 16; with_reducible refine (alive_c _).mono ?_; rintro e4 w4 ⟨rfl, hb⟩; replace k := Has.keep k hb; replace x0 := c0 k; replace x1 := c1 k; replace x2 := c2 k; replace x3 := c3 k; clear hb))
  go_ret
  exact ⟨by simp, k.2⟩
end Go.Proofs.Ytfehdajjnbehdaa.Steps
