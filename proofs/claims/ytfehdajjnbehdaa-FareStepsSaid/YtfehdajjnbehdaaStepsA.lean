/- The walk of FareSteps: the ways 0, 1. -/
import Derived.Test.YtfehdajjnbehdaaSteps
namespace Go.Proofs.Ytfehdajjnbehdaa.Steps
open Go.RowKit Go.Proofs.Ytfehdajjnbehdaa.Aid Go.Proofs.Ytfehdajjnbehdaa.Mem Go.Proofs.Ytfehdajjnbehdaa.Fl Go.Proofs.Ytfehdajjnbehdaa.Surge Go.Proofs.Ytfehdajjnbehdaa.Round Go.Proofs.Ytfehdajjnbehdaa.AliveR Go.Proofs.Ytfehdajjnbehdaa.Has Go.Proofs.Ytfehdajjnbehdaa.Keep Go.Proofs.Ytfehdajjnbehdaa.Types Go.Proofs.Ytfehdajjnbehdaa.Price
open Ieee (double Toward Format)
set_option linter.unusedSimpArgs false
set_option linter.unusedVariables false
set_option maxRecDepth 100000
set_option maxHeartbeats 8000000 in
theorem steps_00 (a c b d : Int) (w : World) (i : Nat) (ha : Nu a) (hb : Nu b) (H1 : Hid (Sur a b (stepB i) 0)) (f : Fl i) (hc : Nu c) (hd : Nu d) (j : Nat) (H2 : Hid (Sur c d (stepB j) 0)) (p1 : decide (a ≤ c) = false) (p3 : decide (c ≤ a) = true) (p4 : decide (b ≤ d) = false) (q1 : decide (0 < b) = false) :
    Calls Try.prog 6 #[.agg #[.int .i64 a, .int .i64 c, .int .i64 b, .int .i64 d]] w fun e w' => e = .returned (.bool true) ∧ Below w.heap.size w w' := by
  obtain ⟨f1, f2, f3, f4, f5⟩ := f
  have k := start w a c b d
  have x0 := c0 k
  have x1 := c1 k
  have x2 := c2 k
  have x3 := c3 k
  have z := zero_cmp
  go_enter Try.func6, Try.ntmps6
  go_wp2_with (first | (go_at_call 10; (with_reducible refine (surge_v a b (stepB i) 0 _ H1).mono ?_); rintro e w' ⟨rfl, rfl⟩) | (go_at_call 10; (with_reducible refine (surge_v c d (stepB j) 0 _ H2).mono ?_); rintro e w' ⟨rfl, rfl⟩) | (go_at_call 17; (with_reducible refine (number_t a _ ha).mono ?_); rintro e w' ⟨rfl, rfl⟩) | (go_at_call 17; (with_reducible refine (number_t b _ hb).mono ?_); rintro e w' ⟨rfl, rfl⟩) | (go_at_call 17; (with_reducible refine (number_t c _ hc).mono ?_); rintro e w' ⟨rfl, rfl⟩) | (go_at_call 17; (with_reducible refine (number_t d _ hd).mono ?_); rintro e w' ⟨rfl, rfl⟩) | (go_at_call 16; with_reducible refine (alive_c _).mono ?_; rintro e4 w4 ⟨rfl, hb⟩; replace k := Has.keep k hb; replace x0 := c0 k; replace x1 := c1 k; replace x2 := c2 k; replace x3 := c3 k; clear hb))
  go_ret
  exact ⟨by simp, k.2⟩
set_option maxHeartbeats 8000000 in
theorem steps_01 (a c b d : Int) (w : World) (i : Nat) (ha : Nu a) (hb : Nu b) (H1 : Hid (Sur a b (stepB i) 0)) (f : Fl i) (hc : Nu c) (hd : Nu d) (j : Nat) (H2 : Hid (Sur c d (stepB j) 0)) (p1 : decide (a ≤ c) = false) (p3 : decide (c ≤ a) = true) (p4 : decide (b ≤ d) = false) (q1 : decide (0 < b) = true) (q2 : decide (b < 1099511627776) = false) :
    Calls Try.prog 6 #[.agg #[.int .i64 a, .int .i64 c, .int .i64 b, .int .i64 d]] w fun e w' => e = .returned (.bool true) ∧ Below w.heap.size w w' := by
  obtain ⟨f1, f2, f3, f4, f5⟩ := f
  have k := start w a c b d
  have x0 := c0 k
  have x1 := c1 k
  have x2 := c2 k
  have x3 := c3 k
  have z := zero_cmp
  go_enter Try.func6, Try.ntmps6
  go_wp2_with (first | (go_at_call 10; (with_reducible refine (surge_v a b (stepB i) 0 _ H1).mono ?_); rintro e w' ⟨rfl, rfl⟩) | (go_at_call 10; (with_reducible refine (surge_v c d (stepB j) 0 _ H2).mono ?_); rintro e w' ⟨rfl, rfl⟩) | (go_at_call 17; (with_reducible refine (number_t a _ ha).mono ?_); rintro e w' ⟨rfl, rfl⟩) | (go_at_call 17; (with_reducible refine (number_t b _ hb).mono ?_); rintro e w' ⟨rfl, rfl⟩) | (go_at_call 17; (with_reducible refine (number_t c _ hc).mono ?_); rintro e w' ⟨rfl, rfl⟩) | (go_at_call 17; (with_reducible refine (number_t d _ hd).mono ?_); rintro e w' ⟨rfl, rfl⟩) | (go_at_call 16; with_reducible refine (alive_c _).mono ?_; rintro e4 w4 ⟨rfl, hb⟩; replace k := Has.keep k hb; replace x0 := c0 k; replace x1 := c1 k; replace x2 := c2 k; replace x3 := c3 k; clear hb))
  go_ret
  exact ⟨by simp, k.2⟩
set_option maxHeartbeats 8000000 in
theorem steps_02 (a c b d : Int) (w : World) (i : Nat) (ha : Nu a) (hb : Nu b) (H1 : Hid (Sur a b (stepB i) 0)) (f : Fl i) (hc : Nu c) (hd : Nu d) (j : Nat) (H2 : Hid (Sur c d (stepB j) 0)) (p1 : decide (a ≤ c) = false) (p3 : decide (c ≤ a) = true) (p4 : decide (b ≤ d) = false) (q1 : decide (0 < b) = true) (q2 : decide (b < 1099511627776) = true) (q3 : decide (a < 1099511627776) = false) :
    Calls Try.prog 6 #[.agg #[.int .i64 a, .int .i64 c, .int .i64 b, .int .i64 d]] w fun e w' => e = .returned (.bool true) ∧ Below w.heap.size w w' := by
  obtain ⟨f1, f2, f3, f4, f5⟩ := f
  have k := start w a c b d
  have x0 := c0 k
  have x1 := c1 k
  have x2 := c2 k
  have x3 := c3 k
  have z := zero_cmp
  go_enter Try.func6, Try.ntmps6
  go_wp2_with (first | (go_at_call 10; (with_reducible refine (surge_v a b (stepB i) 0 _ H1).mono ?_); rintro e w' ⟨rfl, rfl⟩) | (go_at_call 10; (with_reducible refine (surge_v c d (stepB j) 0 _ H2).mono ?_); rintro e w' ⟨rfl, rfl⟩) | (go_at_call 17; (with_reducible refine (number_t a _ ha).mono ?_); rintro e w' ⟨rfl, rfl⟩) | (go_at_call 17; (with_reducible refine (number_t b _ hb).mono ?_); rintro e w' ⟨rfl, rfl⟩) | (go_at_call 17; (with_reducible refine (number_t c _ hc).mono ?_); rintro e w' ⟨rfl, rfl⟩) | (go_at_call 17; (with_reducible refine (number_t d _ hd).mono ?_); rintro e w' ⟨rfl, rfl⟩) | (go_at_call 16; with_reducible refine (alive_c _).mono ?_; rintro e4 w4 ⟨rfl, hb⟩; replace k := Has.keep k hb; replace x0 := c0 k; replace x1 := c1 k; replace x2 := c2 k; replace x3 := c3 k; clear hb))
  go_ret
  exact ⟨by simp, k.2⟩
set_option maxHeartbeats 8000000 in
theorem steps_03 (a c b d : Int) (w : World) (i : Nat) (ha : Nu a) (hb : Nu b) (H1 : Hid (Sur a b (stepB i) 0)) (f : Fl i) (hc : Nu c) (hd : Nu d) (j : Nat) (H2 : Hid (Sur c d (stepB j) 0)) (p1 : decide (a ≤ c) = false) (p3 : decide (c ≤ a) = true) (p4 : decide (b ≤ d) = false) (q1 : decide (0 < b) = true) (q2 : decide (b < 1099511627776) = true) (q3 : decide (a < 1099511627776) = true) (r1 : (((i : Int) + 4) == 4) = true) (r2 : (((i : Int) + 4) == 12) = false) (hw1 : IntKind.i64.wrap (4 * a) = 4 * a) (hw3 : IntKind.i64.wrap (((i : Int) + 4) + 1) = (i : Int) + 5) (hw4 : IntKind.i64.wrap (((i : Int) + 5) * b) = ((i : Int) + 5) * b) (g2 : decide (4 * a < ((i : Int) + 5) * b) = true) :
    Calls Try.prog 6 #[.agg #[.int .i64 a, .int .i64 c, .int .i64 b, .int .i64 d]] w fun e w' => e = .returned (.bool true) ∧ Below w.heap.size w w' := by
  obtain ⟨f1, f2, f3, f4, f5⟩ := f
  have k := start w a c b d
  have x0 := c0 k
  have x1 := c1 k
  have x2 := c2 k
  have x3 := c3 k
  have z := zero_cmp
  go_enter Try.func6, Try.ntmps6
  go_wp2_with (first | (go_at_call 10; (with_reducible refine (surge_v a b (stepB i) 0 _ H1).mono ?_); rintro e w' ⟨rfl, rfl⟩) | (go_at_call 10; (with_reducible refine (surge_v c d (stepB j) 0 _ H2).mono ?_); rintro e w' ⟨rfl, rfl⟩) | (go_at_call 17; (with_reducible refine (number_t a _ ha).mono ?_); rintro e w' ⟨rfl, rfl⟩) | (go_at_call 17; (with_reducible refine (number_t b _ hb).mono ?_); rintro e w' ⟨rfl, rfl⟩) | (go_at_call 17; (with_reducible refine (number_t c _ hc).mono ?_); rintro e w' ⟨rfl, rfl⟩) | (go_at_call 17; (with_reducible refine (number_t d _ hd).mono ?_); rintro e w' ⟨rfl, rfl⟩) | (go_at_call 16; with_reducible refine (alive_c _).mono ?_; rintro e4 w4 ⟨rfl, hb⟩; replace k := Has.keep k hb; replace x0 := c0 k; replace x1 := c1 k; replace x2 := c2 k; replace x3 := c3 k; clear hb))
  go_ret
  exact ⟨by simp, k.2⟩
set_option maxHeartbeats 8000000 in
theorem steps_04 (a c b d : Int) (w : World) (i : Nat) (ha : Nu a) (hb : Nu b) (H1 : Hid (Sur a b (stepB i) 0)) (f : Fl i) (hc : Nu c) (hd : Nu d) (j : Nat) (H2 : Hid (Sur c d (stepB j) 0)) (p1 : decide (a ≤ c) = false) (p3 : decide (c ≤ a) = true) (p4 : decide (b ≤ d) = false) (q1 : decide (0 < b) = true) (q2 : decide (b < 1099511627776) = true) (q3 : decide (a < 1099511627776) = true) (r1 : (((i : Int) + 4) == 4) = false) (r2 : (((i : Int) + 4) == 12) = true) (hw1 : IntKind.i64.wrap (4 * a) = 4 * a) (hw2 : IntKind.i64.wrap (((i : Int) + 4) * b) = ((i : Int) + 4) * b) (g1 : decide (((i : Int) + 4) * b ≤ 4 * a) = true) :
    Calls Try.prog 6 #[.agg #[.int .i64 a, .int .i64 c, .int .i64 b, .int .i64 d]] w fun e w' => e = .returned (.bool true) ∧ Below w.heap.size w w' := by
  obtain ⟨f1, f2, f3, f4, f5⟩ := f
  have k := start w a c b d
  have x0 := c0 k
  have x1 := c1 k
  have x2 := c2 k
  have x3 := c3 k
  have z := zero_cmp
  go_enter Try.func6, Try.ntmps6
  go_wp2_with (first | (go_at_call 10; (with_reducible refine (surge_v a b (stepB i) 0 _ H1).mono ?_); rintro e w' ⟨rfl, rfl⟩) | (go_at_call 10; (with_reducible refine (surge_v c d (stepB j) 0 _ H2).mono ?_); rintro e w' ⟨rfl, rfl⟩) | (go_at_call 17; (with_reducible refine (number_t a _ ha).mono ?_); rintro e w' ⟨rfl, rfl⟩) | (go_at_call 17; (with_reducible refine (number_t b _ hb).mono ?_); rintro e w' ⟨rfl, rfl⟩) | (go_at_call 17; (with_reducible refine (number_t c _ hc).mono ?_); rintro e w' ⟨rfl, rfl⟩) | (go_at_call 17; (with_reducible refine (number_t d _ hd).mono ?_); rintro e w' ⟨rfl, rfl⟩) | (go_at_call 16; with_reducible refine (alive_c _).mono ?_; rintro e4 w4 ⟨rfl, hb⟩; replace k := Has.keep k hb; replace x0 := c0 k; replace x1 := c1 k; replace x2 := c2 k; replace x3 := c3 k; clear hb))
  go_ret
  exact ⟨by simp, k.2⟩
set_option maxHeartbeats 8000000 in
theorem steps_05 (a c b d : Int) (w : World) (i : Nat) (ha : Nu a) (hb : Nu b) (H1 : Hid (Sur a b (stepB i) 0)) (f : Fl i) (hc : Nu c) (hd : Nu d) (j : Nat) (H2 : Hid (Sur c d (stepB j) 0)) (p1 : decide (a ≤ c) = false) (p3 : decide (c ≤ a) = true) (p4 : decide (b ≤ d) = false) (q1 : decide (0 < b) = true) (q2 : decide (b < 1099511627776) = true) (q3 : decide (a < 1099511627776) = true) (r1 : (((i : Int) + 4) == 4) = false) (r2 : (((i : Int) + 4) == 12) = false) (hw1 : IntKind.i64.wrap (4 * a) = 4 * a) (hw2 : IntKind.i64.wrap (((i : Int) + 4) * b) = ((i : Int) + 4) * b) (hw3 : IntKind.i64.wrap (((i : Int) + 4) + 1) = (i : Int) + 5) (hw4 : IntKind.i64.wrap (((i : Int) + 5) * b) = ((i : Int) + 5) * b) (g1 : decide (((i : Int) + 4) * b ≤ 4 * a) = true) (g2 : decide (4 * a < ((i : Int) + 5) * b) = true) :
    Calls Try.prog 6 #[.agg #[.int .i64 a, .int .i64 c, .int .i64 b, .int .i64 d]] w fun e w' => e = .returned (.bool true) ∧ Below w.heap.size w w' := by
  obtain ⟨f1, f2, f3, f4, f5⟩ := f
  have k := start w a c b d
  have x0 := c0 k
  have x1 := c1 k
  have x2 := c2 k
  have x3 := c3 k
  have z := zero_cmp
  go_enter Try.func6, Try.ntmps6
  go_wp2_with (first | (go_at_call 10; (with_reducible refine (surge_v a b (stepB i) 0 _ H1).mono ?_); rintro e w' ⟨rfl, rfl⟩) | (go_at_call 10; (with_reducible refine (surge_v c d (stepB j) 0 _ H2).mono ?_); rintro e w' ⟨rfl, rfl⟩) | (go_at_call 17; (with_reducible refine (number_t a _ ha).mono ?_); rintro e w' ⟨rfl, rfl⟩) | (go_at_call 17; (with_reducible refine (number_t b _ hb).mono ?_); rintro e w' ⟨rfl, rfl⟩) | (go_at_call 17; (with_reducible refine (number_t c _ hc).mono ?_); rintro e w' ⟨rfl, rfl⟩) | (go_at_call 17; (with_reducible refine (number_t d _ hd).mono ?_); rintro e w' ⟨rfl, rfl⟩) | (go_at_call 16; with_reducible refine (alive_c _).mono ?_; rintro e4 w4 ⟨rfl, hb⟩; replace k := Has.keep k hb; replace x0 := c0 k; replace x1 := c1 k; replace x2 := c2 k; replace x3 := c3 k; clear hb))
  go_ret
  exact ⟨by simp, k.2⟩
set_option maxHeartbeats 8000000 in
theorem steps_10 (a c b d : Int) (w : World) (i : Nat) (ha : Nu a) (hb : Nu b) (H1 : Hid (Sur a b (stepB i) 0)) (f : Fl i) (hc : Nu c) (hd : Nu d) (j : Nat) (H2 : Hid (Sur c d (stepB j) 0)) (p1 : decide (a ≤ c) = false) (p3 : decide (c ≤ a) = true) (p4 : decide (b ≤ d) = true) (gt : (FloatKind.f64.format.order (stepB j) (stepB i) == some .gt) = false) (q1 : decide (0 < b) = false) :
    Calls Try.prog 6 #[.agg #[.int .i64 a, .int .i64 c, .int .i64 b, .int .i64 d]] w fun e w' => e = .returned (.bool true) ∧ Below w.heap.size w w' := by
  obtain ⟨f1, f2, f3, f4, f5⟩ := f
  have k := start w a c b d
  have x0 := c0 k
  have x1 := c1 k
  have x2 := c2 k
  have x3 := c3 k
  have z := zero_cmp
  go_enter Try.func6, Try.ntmps6
  go_wp2_with (first | (go_at_call 10; (with_reducible refine (surge_v a b (stepB i) 0 _ H1).mono ?_); rintro e w' ⟨rfl, rfl⟩) | (go_at_call 10; (with_reducible refine (surge_v c d (stepB j) 0 _ H2).mono ?_); rintro e w' ⟨rfl, rfl⟩) | (go_at_call 17; (with_reducible refine (number_t a _ ha).mono ?_); rintro e w' ⟨rfl, rfl⟩) | (go_at_call 17; (with_reducible refine (number_t b _ hb).mono ?_); rintro e w' ⟨rfl, rfl⟩) | (go_at_call 17; (with_reducible refine (number_t c _ hc).mono ?_); rintro e w' ⟨rfl, rfl⟩) | (go_at_call 17; (with_reducible refine (number_t d _ hd).mono ?_); rintro e w' ⟨rfl, rfl⟩) | (go_at_call 16; with_reducible refine (alive_c _).mono ?_; rintro e4 w4 ⟨rfl, hb⟩; replace k := Has.keep k hb; replace x0 := c0 k; replace x1 := c1 k; replace x2 := c2 k; replace x3 := c3 k; clear hb))
  go_ret
  exact ⟨by simp, k.2⟩
set_option maxHeartbeats 8000000 in
theorem steps_11 (a c b d : Int) (w : World) (i : Nat) (ha : Nu a) (hb : Nu b) (H1 : Hid (Sur a b (stepB i) 0)) (f : Fl i) (hc : Nu c) (hd : Nu d) (j : Nat) (H2 : Hid (Sur c d (stepB j) 0)) (p1 : decide (a ≤ c) = false) (p3 : decide (c ≤ a) = true) (p4 : decide (b ≤ d) = true) (gt : (FloatKind.f64.format.order (stepB j) (stepB i) == some .gt) = false) (q1 : decide (0 < b) = true) (q2 : decide (b < 1099511627776) = false) :
    Calls Try.prog 6 #[.agg #[.int .i64 a, .int .i64 c, .int .i64 b, .int .i64 d]] w fun e w' => e = .returned (.bool true) ∧ Below w.heap.size w w' := by
  obtain ⟨f1, f2, f3, f4, f5⟩ := f
  have k := start w a c b d
  have x0 := c0 k
  have x1 := c1 k
  have x2 := c2 k
  have x3 := c3 k
  have z := zero_cmp
  go_enter Try.func6, Try.ntmps6
  go_wp2_with (first | (go_at_call 10; (with_reducible refine (surge_v a b (stepB i) 0 _ H1).mono ?_); rintro e w' ⟨rfl, rfl⟩) | (go_at_call 10; (with_reducible refine (surge_v c d (stepB j) 0 _ H2).mono ?_); rintro e w' ⟨rfl, rfl⟩) | (go_at_call 17; (with_reducible refine (number_t a _ ha).mono ?_); rintro e w' ⟨rfl, rfl⟩) | (go_at_call 17; (with_reducible refine (number_t b _ hb).mono ?_); rintro e w' ⟨rfl, rfl⟩) | (go_at_call 17; (with_reducible refine (number_t c _ hc).mono ?_); rintro e w' ⟨rfl, rfl⟩) | (go_at_call 17; (with_reducible refine (number_t d _ hd).mono ?_); rintro e w' ⟨rfl, rfl⟩) | (go_at_call 16; with_reducible refine (alive_c _).mono ?_; rintro e4 w4 ⟨rfl, hb⟩; replace k := Has.keep k hb; replace x0 := c0 k; replace x1 := c1 k; replace x2 := c2 k; replace x3 := c3 k; clear hb))
  go_ret
  exact ⟨by simp, k.2⟩
set_option maxHeartbeats 8000000 in
theorem steps_12 (a c b d : Int) (w : World) (i : Nat) (ha : Nu a) (hb : Nu b) (H1 : Hid (Sur a b (stepB i) 0)) (f : Fl i) (hc : Nu c) (hd : Nu d) (j : Nat) (H2 : Hid (Sur c d (stepB j) 0)) (p1 : decide (a ≤ c) = false) (p3 : decide (c ≤ a) = true) (p4 : decide (b ≤ d) = true) (gt : (FloatKind.f64.format.order (stepB j) (stepB i) == some .gt) = false) (q1 : decide (0 < b) = true) (q2 : decide (b < 1099511627776) = true) (q3 : decide (a < 1099511627776) = false) :
    Calls Try.prog 6 #[.agg #[.int .i64 a, .int .i64 c, .int .i64 b, .int .i64 d]] w fun e w' => e = .returned (.bool true) ∧ Below w.heap.size w w' := by
  obtain ⟨f1, f2, f3, f4, f5⟩ := f
  have k := start w a c b d
  have x0 := c0 k
  have x1 := c1 k
  have x2 := c2 k
  have x3 := c3 k
  have z := zero_cmp
  go_enter Try.func6, Try.ntmps6
  go_wp2_with (first | (go_at_call 10; (with_reducible refine (surge_v a b (stepB i) 0 _ H1).mono ?_); rintro e w' ⟨rfl, rfl⟩) | (go_at_call 10; (with_reducible refine (surge_v c d (stepB j) 0 _ H2).mono ?_); rintro e w' ⟨rfl, rfl⟩) | (go_at_call 17; (with_reducible refine (number_t a _ ha).mono ?_); rintro e w' ⟨rfl, rfl⟩) | (go_at_call 17; (with_reducible refine (number_t b _ hb).mono ?_); rintro e w' ⟨rfl, rfl⟩) | (go_at_call 17; (with_reducible refine (number_t c _ hc).mono ?_); rintro e w' ⟨rfl, rfl⟩) | (go_at_call 17; (with_reducible refine (number_t d _ hd).mono ?_); rintro e w' ⟨rfl, rfl⟩) | (go_at_call 16; with_reducible refine (alive_c _).mono ?_; rintro e4 w4 ⟨rfl, hb⟩; replace k := Has.keep k hb; replace x0 := c0 k; replace x1 := c1 k; replace x2 := c2 k; replace x3 := c3 k; clear hb))
  go_ret
  exact ⟨by simp, k.2⟩
set_option maxHeartbeats 8000000 in
theorem steps_13 (a c b d : Int) (w : World) (i : Nat) (ha : Nu a) (hb : Nu b) (H1 : Hid (Sur a b (stepB i) 0)) (f : Fl i) (hc : Nu c) (hd : Nu d) (j : Nat) (H2 : Hid (Sur c d (stepB j) 0)) (p1 : decide (a ≤ c) = false) (p3 : decide (c ≤ a) = true) (p4 : decide (b ≤ d) = true) (gt : (FloatKind.f64.format.order (stepB j) (stepB i) == some .gt) = false) (q1 : decide (0 < b) = true) (q2 : decide (b < 1099511627776) = true) (q3 : decide (a < 1099511627776) = true) (r1 : (((i : Int) + 4) == 4) = true) (r2 : (((i : Int) + 4) == 12) = false) (hw1 : IntKind.i64.wrap (4 * a) = 4 * a) (hw3 : IntKind.i64.wrap (((i : Int) + 4) + 1) = (i : Int) + 5) (hw4 : IntKind.i64.wrap (((i : Int) + 5) * b) = ((i : Int) + 5) * b) (g2 : decide (4 * a < ((i : Int) + 5) * b) = true) :
    Calls Try.prog 6 #[.agg #[.int .i64 a, .int .i64 c, .int .i64 b, .int .i64 d]] w fun e w' => e = .returned (.bool true) ∧ Below w.heap.size w w' := by
  obtain ⟨f1, f2, f3, f4, f5⟩ := f
  have k := start w a c b d
  have x0 := c0 k
  have x1 := c1 k
  have x2 := c2 k
  have x3 := c3 k
  have z := zero_cmp
  go_enter Try.func6, Try.ntmps6
  go_wp2_with (first | (go_at_call 10; (with_reducible refine (surge_v a b (stepB i) 0 _ H1).mono ?_); rintro e w' ⟨rfl, rfl⟩) | (go_at_call 10; (with_reducible refine (surge_v c d (stepB j) 0 _ H2).mono ?_); rintro e w' ⟨rfl, rfl⟩) | (go_at_call 17; (with_reducible refine (number_t a _ ha).mono ?_); rintro e w' ⟨rfl, rfl⟩) | (go_at_call 17; (with_reducible refine (number_t b _ hb).mono ?_); rintro e w' ⟨rfl, rfl⟩) | (go_at_call 17; (with_reducible refine (number_t c _ hc).mono ?_); rintro e w' ⟨rfl, rfl⟩) | (go_at_call 17; (with_reducible refine (number_t d _ hd).mono ?_); rintro e w' ⟨rfl, rfl⟩) | (go_at_call 16; with_reducible refine (alive_c _).mono ?_; rintro e4 w4 ⟨rfl, hb⟩; replace k := Has.keep k hb; replace x0 := c0 k; replace x1 := c1 k; replace x2 := c2 k; replace x3 := c3 k; clear hb))
  go_ret
  exact ⟨by simp, k.2⟩
set_option maxHeartbeats 8000000 in
theorem steps_14 (a c b d : Int) (w : World) (i : Nat) (ha : Nu a) (hb : Nu b) (H1 : Hid (Sur a b (stepB i) 0)) (f : Fl i) (hc : Nu c) (hd : Nu d) (j : Nat) (H2 : Hid (Sur c d (stepB j) 0)) (p1 : decide (a ≤ c) = false) (p3 : decide (c ≤ a) = true) (p4 : decide (b ≤ d) = true) (gt : (FloatKind.f64.format.order (stepB j) (stepB i) == some .gt) = false) (q1 : decide (0 < b) = true) (q2 : decide (b < 1099511627776) = true) (q3 : decide (a < 1099511627776) = true) (r1 : (((i : Int) + 4) == 4) = false) (r2 : (((i : Int) + 4) == 12) = true) (hw1 : IntKind.i64.wrap (4 * a) = 4 * a) (hw2 : IntKind.i64.wrap (((i : Int) + 4) * b) = ((i : Int) + 4) * b) (g1 : decide (((i : Int) + 4) * b ≤ 4 * a) = true) :
    Calls Try.prog 6 #[.agg #[.int .i64 a, .int .i64 c, .int .i64 b, .int .i64 d]] w fun e w' => e = .returned (.bool true) ∧ Below w.heap.size w w' := by
  obtain ⟨f1, f2, f3, f4, f5⟩ := f
  have k := start w a c b d
  have x0 := c0 k
  have x1 := c1 k
  have x2 := c2 k
  have x3 := c3 k
  have z := zero_cmp
  go_enter Try.func6, Try.ntmps6
  go_wp2_with (first | (go_at_call 10; (with_reducible refine (surge_v a b (stepB i) 0 _ H1).mono ?_); rintro e w' ⟨rfl, rfl⟩) | (go_at_call 10; (with_reducible refine (surge_v c d (stepB j) 0 _ H2).mono ?_); rintro e w' ⟨rfl, rfl⟩) | (go_at_call 17; (with_reducible refine (number_t a _ ha).mono ?_); rintro e w' ⟨rfl, rfl⟩) | (go_at_call 17; (with_reducible refine (number_t b _ hb).mono ?_); rintro e w' ⟨rfl, rfl⟩) | (go_at_call 17; (with_reducible refine (number_t c _ hc).mono ?_); rintro e w' ⟨rfl, rfl⟩) | (go_at_call 17; (with_reducible refine (number_t d _ hd).mono ?_); rintro e w' ⟨rfl, rfl⟩) | (go_at_call 16; with_reducible refine (alive_c _).mono ?_; rintro e4 w4 ⟨rfl, hb⟩; replace k := Has.keep k hb; replace x0 := c0 k; replace x1 := c1 k; replace x2 := c2 k; replace x3 := c3 k; clear hb))
  go_ret
  exact ⟨by simp, k.2⟩
set_option maxHeartbeats 8000000 in
theorem steps_15 (a c b d : Int) (w : World) (i : Nat) (ha : Nu a) (hb : Nu b) (H1 : Hid (Sur a b (stepB i) 0)) (f : Fl i) (hc : Nu c) (hd : Nu d) (j : Nat) (H2 : Hid (Sur c d (stepB j) 0)) (p1 : decide (a ≤ c) = false) (p3 : decide (c ≤ a) = true) (p4 : decide (b ≤ d) = true) (gt : (FloatKind.f64.format.order (stepB j) (stepB i) == some .gt) = false) (q1 : decide (0 < b) = true) (q2 : decide (b < 1099511627776) = true) (q3 : decide (a < 1099511627776) = true) (r1 : (((i : Int) + 4) == 4) = false) (r2 : (((i : Int) + 4) == 12) = false) (hw1 : IntKind.i64.wrap (4 * a) = 4 * a) (hw2 : IntKind.i64.wrap (((i : Int) + 4) * b) = ((i : Int) + 4) * b) (hw3 : IntKind.i64.wrap (((i : Int) + 4) + 1) = (i : Int) + 5) (hw4 : IntKind.i64.wrap (((i : Int) + 5) * b) = ((i : Int) + 5) * b) (g1 : decide (((i : Int) + 4) * b ≤ 4 * a) = true) (g2 : decide (4 * a < ((i : Int) + 5) * b) = true) :
    Calls Try.prog 6 #[.agg #[.int .i64 a, .int .i64 c, .int .i64 b, .int .i64 d]] w fun e w' => e = .returned (.bool true) ∧ Below w.heap.size w w' := by
  obtain ⟨f1, f2, f3, f4, f5⟩ := f
  have k := start w a c b d
  have x0 := c0 k
  have x1 := c1 k
  have x2 := c2 k
  have x3 := c3 k
  have z := zero_cmp
  go_enter Try.func6, Try.ntmps6
  go_wp2_with (first | (go_at_call 10; (with_reducible refine (surge_v a b (stepB i) 0 _ H1).mono ?_); rintro e w' ⟨rfl, rfl⟩) | (go_at_call 10; (with_reducible refine (surge_v c d (stepB j) 0 _ H2).mono ?_); rintro e w' ⟨rfl, rfl⟩) | (go_at_call 17; (with_reducible refine (number_t a _ ha).mono ?_); rintro e w' ⟨rfl, rfl⟩) | (go_at_call 17; (with_reducible refine (number_t b _ hb).mono ?_); rintro e w' ⟨rfl, rfl⟩) | (go_at_call 17; (with_reducible refine (number_t c _ hc).mono ?_); rintro e w' ⟨rfl, rfl⟩) | (go_at_call 17; (with_reducible refine (number_t d _ hd).mono ?_); rintro e w' ⟨rfl, rfl⟩) | (go_at_call 16; with_reducible refine (alive_c _).mono ?_; rintro e4 w4 ⟨rfl, hb⟩; replace k := Has.keep k hb; replace x0 := c0 k; replace x1 := c1 k; replace x2 := c2 k; replace x3 := c3 k; clear hb))
  go_ret
  exact ⟨by simp, k.2⟩
end Go.Proofs.Ytfehdajjnbehdaa.Steps
