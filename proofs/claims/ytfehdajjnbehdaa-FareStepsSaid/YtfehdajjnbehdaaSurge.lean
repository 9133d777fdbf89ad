/- Surge and the document's Surge, by cases; the law FareSurges. -/
import Derived.Test.YtfehdajjnbehdaaRead
import Derived.Test.YtfehdajjnbehdaaAid
import Derived.Below
import Derived.WalkKit
import Derived.LoopTactic
import Derived.Test.YtfehdajjnbehdaaRows
import Derived.Lib.Hide
namespace Go.Proofs.Ytfehdajjnbehdaa.Surge
open Go.RowKit Go.Proofs.Ytfehdajjnbehdaa.Aid Go.Proofs.Ytfehdajjnbehdaa.Fl
set_option linter.unusedSimpArgs false
set_option linter.unusedVariables false
/-- 1 + k / 4, as a double. -/
def stepB : Nat → Nat
  | 0 => 4607182418800017408
  | 1 => 4608308318706860032
  | 2 => 4609434218613702656
  | 3 => 4610560118520545280
  | 4 => 4611686018427387904
  | 5 => 4612248968380809216
  | 6 => 4612811918334230528
  | 7 => 4613374868287651840
  | _ => 4613937818241073152
/-- k / 4, as a double. -/
def partB : Nat → Nat
  | 0 => 0
  | 1 => 4598175219545276416
  | 2 => 4602678819172646912
  | 3 => 4604930618986332160
  | 4 => 4607182418800017408
  | 5 => 4608308318706860032
  | 6 => 4609434218613702656
  | 7 => 4610560118520545280
  | _ => 4611686018427387904
def leB (a b : Nat) : Bool := FloatKind.f64.format.order a b == some .lt || FloatKind.f64.format.order a b == some .eq
def bestB (q : Nat) : Nat → Nat
  | 0 => 4607182418800017408
  | k + 1 => if leB (stepB k) q = true then stepB k else bestB q k
theorem steps : ∀ k : Fin 9, floatBits .mul .f64 4598175219545276416 (floatOfInt .f64 (k.val : Int)) = some (partB k.val) ∧ floatBits .add .f64 4607182418800017408 (partB k.val) = some (stepB k.val) ∧ floatBits .quo .f64 (floatOfInt .f64 ((k.val : Int) + 4)) 4616189618054758400 = some (stepB k.val) ∧ (FloatKind.f64.format.order (stepB k.val) (stepB k.val) == some .eq) = true := by decide +kernel
theorem step_at (k : Nat) (hk : k < 9) : floatBits .mul .f64 4598175219545276416 (floatOfInt .f64 (k : Int)) = some (partB k) ∧ floatBits .add .f64 4607182418800017408 (partB k) = some (stepB k) ∧ floatBits .quo .f64 (floatOfInt .f64 ((k : Int) + 4)) 4616189618054758400 = some (stepB k) ∧ (FloatKind.f64.format.order (stepB k) (stepB k) == some .eq) = true := steps ⟨k, hk⟩
theorem best_self (q : Nat) : ∀ k, k ≤ 9 → (FloatKind.f64.format.order (bestB q k) (bestB q k) == some .eq) = true
  | 0, _ => by show (FloatKind.f64.format.order 4607182418800017408 4607182418800017408 == some .eq) = true; decide +kernel
  | k + 1, h => by
    unfold bestB
    split
    · exact (step_at k (by omega)).2.2.2
    · exact best_self q k (by omega)
/-- What Surge tells. -/
def Sur (a b : Int) (v : Nat) (e : Int) : Prop :=
  (¬ (0 ≤ a ∧ a ≤ 4611686018427387903 ∧ 0 ≤ b ∧ b ≤ 4611686018427387903) ∧ v = 0 ∧ e = 1) ∨
  (a = 0 ∧ b = 0 ∧ v = 4607182418800017408 ∧ e = 0) ∨
  (0 < a ∧ a ≤ 4611686018427387903 ∧ b = 0 ∧ v = 4613937818241073152 ∧ e = 0) ∨
  (0 ≤ a ∧ a ≤ 4611686018427387903 ∧ 0 < b ∧ b ≤ 4611686018427387903 ∧ ∃ q, floatBits .quo .f64 (floatOfInt .f64 a) (floatOfInt .f64 b) = some q ∧ v = bestB q 9 ∧ e = 0)
theorem sur_any (a b : Int) : ∃ v e, Sur a b v e ∧ (FloatKind.f64.format.order v v == some .eq) = true := by
  by_cases h : 0 ≤ a ∧ a ≤ 4611686018427387903 ∧ 0 ≤ b ∧ b ≤ 4611686018427387903
  · obtain ⟨h1, h2, h3, h4⟩ := h
    by_cases hb : b = 0
    · by_cases ha : a = 0
      · exact ⟨_, _, .inr (.inl ⟨ha, hb, rfl, rfl⟩), by decide +kernel⟩
      · exact ⟨_, _, .inr (.inr (.inl ⟨by omega, h2, hb, rfl, rfl⟩)), by decide +kernel⟩
    · obtain ⟨q, hq⟩ := quo_some a b (by omega) (by omega) hb
      exact ⟨_, _, .inr (.inr (.inr ⟨h1, h2, by omega, h4, q, hq, rfl, rfl⟩)), best_self q 9 (Nat.le_refl _)⟩
  · exact ⟨_, _, .inl ⟨h, rfl, rfl⟩, by decide +kernel⟩
theorem count_c (n : Int) (w : World) : Calls Try.prog 22 #[.int .i64 n] w fun e w' => e = .returned (.bool (decide (0 ≤ n ∧ n ≤ 4611686018427387903))) ∧ w = w' := by
  go_enter Try.func22, Try.ntmps22
  by_cases h1 : 0 ≤ n <;> by_cases h2 : n ≤ 4611686018427387903 <;> (go_wp2; go_ret; refine ⟨?_, rfl⟩; simp [h1, h2])
theorem count_t (n : Int) (w : World) (h1 : 0 ≤ n) (h2 : n ≤ 4611686018427387903) : Calls Try.prog 22 #[.int .i64 n] w fun e w' => e = .returned (.bool true) ∧ w = w' := by
  refine (count_c n w).mono fun e w' ⟨h, k⟩ => ⟨?_, k⟩
  rw [h, decide_eq_true ⟨h1, h2⟩]
theorem count_f (n : Int) (w : World) (h : n < 0 ∨ 4611686018427387903 < n) : Calls Try.prog 22 #[.int .i64 n] w fun e w' => e = .returned (.bool false) ∧ w = w' := by
  refine (count_c n w).mono fun e w' ⟨h', k⟩ => ⟨?_, k⟩
  rw [h', decide_eq_false (by omega)]
theorem surge_c (a b : Int) (v : Nat) (e : Int) (w : World) (h : Sur a b v e) : Calls Try.prog 10 #[.int .i64 a, .int .i64 b] w fun x w' => x = .returned (.tuple #[.float .f64 v, .int .i64 e]) ∧ w = w' := by
  go_enter Try.func10, Try.ntmps10
  rcases h with ⟨h, rfl, rfl⟩ | ⟨rfl, rfl, rfl, rfl⟩ | ⟨h1, h2, rfl, rfl, rfl⟩ | ⟨h1, h2, h3, h4, q, hq, rfl, rfl⟩
  · by_cases ha : 0 ≤ a ∧ a ≤ 4611686018427387903
    · have hb : b < 0 ∨ 4611686018427387903 < b := by omega
      obtain ⟨a1, a2⟩ := ha
      clear h
      go_wp2_with (first | (go_at_call 22; (with_reducible refine (count_t a _ a1 a2).mono ?_); rintro e w' ⟨rfl, rfl⟩) | (go_at_call 22; (with_reducible refine (count_f b _ hb).mono ?_); rintro e w' ⟨rfl, rfl⟩))
      go_ret2
      exact ⟨rfl, rfl⟩
    · have ha' : a < 0 ∨ 4611686018427387903 < a := by omega
      clear h ha
      go_wp2_with (first | (go_at_call 22; (with_reducible refine (count_f a _ ha').mono ?_); rintro e w' ⟨rfl, rfl⟩))
      go_ret2
      exact ⟨rfl, rfl⟩
  · go_wp2_with (first | (go_at_call 22; (with_reducible refine (count_t 0 _ (by omega) (by omega)).mono ?_); rintro e w' ⟨rfl, rfl⟩))
    go_ret2
    exact ⟨rfl, rfl⟩
  · go_wp2_with (first | (go_at_call 22; (with_reducible refine (count_t a _ (by omega) h2).mono ?_); rintro e w' ⟨rfl, rfl⟩) | (go_at_call 22; (with_reducible refine (count_t 0 _ (by omega) (by omega)).mono ?_); rintro e w' ⟨rfl, rfl⟩))
    go_ret2
    exact ⟨rfl, rfl⟩
  · have hb : ¬ b = 0 := by omega
    have hquo : ∀ t w, (binOp .quo t (.float .f64 (floatOfInt .f64 a)) (.float .f64 (floatOfInt .f64 b))).run Try.prog w = .ok (.float .f64 q) w := fun t w => run_float_arith w .quo t .f64 _ _ q hq
    clear hq
    go_wp2_with (first | (go_at_call 22; (with_reducible refine (count_t a _ h1 h2).mono ?_); rintro e w' ⟨rfl, rfl⟩) | (go_at_call 22; (with_reducible refine (count_t b _ (by omega) h4).mono ?_); rintro e w' ⟨rfl, rfl⟩))
    go_loop [7, 27] (fun x i => ∃ k : Nat, k ≤ 9 ∧ i = .int .i64 k ∧ x = .float .f64 (bestB q k)) (fun _ i => 9 - (intOf i).toNat)
    case atStart => exact ⟨0, by omega, rfl, rfl⟩
    case round =>
      obtain ⟨k, hk, rfl, rfl⟩ := hrel
      by_cases hlt : k < 9
      · obtain ⟨s1, s2, _, _⟩ := step_at k hlt
        have hm : ∀ t w, (binOp .mul t (.float .f64 4598175219545276416) (.float .f64 (floatOfInt .f64 (k : Int)))).run Try.prog w = .ok (.float .f64 (partB k)) w := fun t w => run_float_arith w .mul t .f64 _ _ _ s1
        have ha : ∀ t w, (binOp .add t (.float .f64 4607182418800017408) (.float .f64 (partB k))).run Try.prog w = .ok (.float .f64 (stepB k)) w := fun t w => run_float_arith w .add t .f64 _ _ _ s2
        clear s1 s2
        by_cases hl : leB (stepB k) q = true
        · have hl' : (FloatKind.f64.format.order (stepB k) q == some .lt || FloatKind.f64.format.order (stepB k) q == some .eq) = true := hl
          have HL := Lib.hid hl
          clear hl
          go_wp2
          go_round
          case rel => exact ⟨k + 1, by omega, by go_num, by unfold bestB; rw [if_pos HL.out]⟩
          case measure => simp [intOf]; omega
        · have hl' : (FloatKind.f64.format.order (stepB k) q == some .lt || FloatKind.f64.format.order (stepB k) q == some .eq) = false := by simpa [leB] using hl
          have HL := Lib.hid hl
          clear hl
          go_wp2
          go_round
          case rel => exact ⟨k + 1, by omega, by go_num, by rw [bestB, if_neg HL.out]⟩
          case measure => simp [intOf]; omega
      · obtain rfl : k = 9 := by omega
        go_wp2
        go_ret2
        exact ⟨rfl, rfl⟩
theorem refsurge_c (a b : Int) (v : Nat) (e : Int) (w : World) (h : Sur a b v e) : Calls Try.prog 11 #[.int .i64 a, .int .i64 b] w fun x w' => x = .returned (.tuple #[.float .f64 v, .int .i64 e]) ∧ w = w' := by
  go_enter Try.func11, Try.ntmps11
  rcases h with ⟨h, rfl, rfl⟩ | ⟨rfl, rfl, rfl, rfl⟩ | ⟨h1, h2, rfl, rfl, rfl⟩ | ⟨h1, h2, h3, h4, q, hq, rfl, rfl⟩
  · by_cases h1 : a < 0
    · clear h
      go_wp2
      go_ret2
      exact ⟨rfl, rfl⟩
    · by_cases h2 : 4611686018427387903 < a
      · clear h
        go_wp2
        go_ret2
        exact ⟨rfl, rfl⟩
      · by_cases h3 : b < 0
        · clear h
          go_wp2
          go_ret2
          exact ⟨rfl, rfl⟩
        · have h4 : 4611686018427387903 < b := by omega
          clear h
          go_wp2
          go_ret2
          exact ⟨rfl, rfl⟩
  · go_wp2
    go_ret2
    exact ⟨rfl, rfl⟩
  · go_wp2
    go_ret2
    exact ⟨rfl, rfl⟩
  · have hb : ¬ b = 0 := by omega
    have hquo : ∀ t w, (binOp .quo t (.float .f64 (floatOfInt .f64 a)) (.float .f64 (floatOfInt .f64 b))).run Try.prog w = .ok (.float .f64 q) w := fun t w => run_float_arith w .quo t .f64 _ _ q hq
    clear hq
    go_wp2
    go_loop [7, 8] (fun x i => ∃ k : Nat, k ≤ 9 ∧ i = .int .i64 ((k : Int) + 4) ∧ x = .float .f64 (bestB q k)) (fun _ i => 13 - (intOf i).toNat)
    case atStart => exact ⟨0, by omega, rfl, rfl⟩
    case round =>
      obtain ⟨k, hk, rfl, rfl⟩ := hrel
      by_cases hlt : k < 9
      · obtain ⟨_, _, s3, _⟩ := step_at k hlt
        have hm : ∀ t w, (binOp .quo t (.float .f64 (floatOfInt .f64 ((k : Int) + 4))) (.float .f64 4616189618054758400)).run Try.prog w = .ok (.float .f64 (stepB k)) w := fun t w => run_float_arith w .quo t .f64 _ _ _ s3
        clear s3
        by_cases hl : leB (stepB k) q = true
        · have hl' : (FloatKind.f64.format.order (stepB k) q == some .lt || FloatKind.f64.format.order (stepB k) q == some .eq) = true := hl
          have HL := Lib.hid hl
          clear hl
          go_wp2
          go_round
          case rel => exact ⟨k + 1, by omega, by go_num, by unfold bestB; rw [if_pos HL.out]⟩
          case measure => simp [intOf]; omega
        · have hl' : (FloatKind.f64.format.order (stepB k) q == some .lt || FloatKind.f64.format.order (stepB k) q == some .eq) = false := by simpa [leB] using hl
          have HL := Lib.hid hl
          clear hl
          go_wp2
          go_round
          case rel => exact ⟨k + 1, by omega, by go_num, by rw [bestB, if_neg HL.out]⟩
          case measure => simp [intOf]; omega
      · obtain rfl : k = 9 := by omega
        go_wp2
        go_ret2
        exact ⟨rfl, rfl⟩
theorem surges (a b : Int) (w : World) (ha : (Lit.int .i64 a).wf = true) (hb : (Lit.int .i64 b).wf = true) : Calls Try.prog 3 #[.int .i64 a, .int .i64 b] w fun e w' => e = .returned (.bool true) ∧ Below w.heap.size w w' := by
  obtain ⟨v, e, h, hv⟩ := sur_any a b
  have H := Lib.hid h
  clear h
  go_enter Try.func3, Try.ntmps3
  go_wp2_with (first | (go_at_call 10; (with_reducible refine (surge_c a b v e _ H.out).mono ?_); rintro e w' ⟨rfl, rfl⟩) | (go_at_call 11; (with_reducible refine (refsurge_c a b v e _ H.out).mono ?_); rintro e w' ⟨rfl, rfl⟩))
  go_ret
  exact ⟨rfl, Below.refl _ _⟩
end Go.Proofs.Ytfehdajjnbehdaa.Surge
