/- Contracts of Round and of the document's Round, for every float; the law FareRounds. -/
import Derived.Test.YtfehdajjnbehdaaWords
import Derived.Test.YtfehdajjnbehdaaAid
import Derived.Test.YtfehdajjnbehdaaMem
import Derived.Below
import Derived.WalkKit
import Derived.Test.YtfehdajjnbehdaaRows
import Derived.Lib.Hide
import Derived.Laws.Externs
import Derived.Laws.Unary
import Derived.Laws.NewFold
namespace Go.Proofs.Ytfehdajjnbehdaa.Round
open Go.RowKit Go.Proofs.Ytfehdajjnbehdaa.Aid Go.Proofs.Ytfehdajjnbehdaa.Fl Go.Proofs.Ytfehdajjnbehdaa.Mem
open Ieee (double Toward Format)
set_option linter.unusedSimpArgs false
set_option linter.unusedVariables false
/-- What Round tells of the word of a sign and a rung. -/
def rdV (s : Bool) (r : Nat) : Int := if r < 4886405595696988160 then (if s then -((rnd (V r) : Nat) : Int) else ((rnd (V r) : Nat) : Int)) else 0
def rdE (r : Nat) : Int := if r < 4886405595696988160 then 0 else if r < 9218868437227405312 then 3 else 1
theorem bits_run (x : Nat) (w : World) : (callFunc 35 #[.float .f64 x]).run Try.prog w = .ok (.value (.int .u64 (x : Int))) w := by
  have h := run_callFunc_extern (P := Try.prog) (f := 35) (e := Extern.MathFloatBits.float64bits) Try.func35 (by kernel_rfl) (by kernel_rfl) (by kernel_rfl) (by rfl) #[.float .f64 x] w
  rw [h]; rfl
theorem from_run (x : Nat) (w : World) : (callFunc 34 #[.int .u64 ((x : Nat) : Int)]).run Try.prog w = .ok (.value (.float .f64 x)) w := by
  have h := run_callFunc_extern (P := Try.prog) (f := 34) (e := Extern.MathFloatBits.float64frombits) Try.func34 (by kernel_rfl) (by kernel_rfl) (by kernel_rfl) (by rfl) #[.int .u64 ((x : Nat) : Int)] w
  rw [h]; rfl
theorem integral_run (P : Program) (w : World) (x : Nat) (s : Bool) (m : Nat) (i : Int) (e2 : FloatKind.f64.decode x = .number s m i) : (Extern.MathFloor.toIntegral "math.RoundToEven" .even #[.float .f64 x]).run P w = .ok (.float .f64 (FloatKind.f64.encode ((Ieee.Datum.number s m i).integral .even))) w := by
  show Sem.run P (match FloatKind.f64.decode x with | .nan s t => (_ : Sem Value) | d => pure (Value.float .f64 (FloatKind.f64.encode (d.integral .even)))) w = _
  rw [e2]
  rfl
theorem rte_run (s : Bool) (r q : Nat) (hr : r < 9218868437227405312) (h : double.write ((double.read (double.word s r)).integral .even) = double.word s q) (w : World) :
    (callFunc 26 #[.float .f64 (double.word s r)]).run Try.prog w = .ok (.value (.float .f64 (double.word s q))) w := by
  have e := run_callFunc_extern (P := Try.prog) (f := 26) (e := Extern.MathFloor.toIntegral "math.RoundToEven" .even) Try.func26 (by kernel_rfl) (by kernel_rfl) (by kernel_rfl) (by rfl) #[.float .f64 (double.word s r)] w
  rw [e]
  obtain ⟨m, i, e1, _⟩ := read_cut s r hr
  rw [e1] at h
  rw [integral_run Try.prog w (double.word s r) s m i e1, ← h]; rfl
theorem ordc (s : Bool) (r q : Nat) (hr : r ≤ 9218868437227405312) (hq : q ≤ 9218868437227405312) : FloatKind.f64.format.order (double.word s r) q = some (if sv s r < (V q : Int) then .lt else if sv s r = (V q : Int) then .eq else .gt) := by
  have h := ord s false r q hr hq
  rw [word_f] at h
  exact h
theorem ordp (r q : Nat) (hr : r ≤ 9218868437227405312) (hq : q ≤ 9218868437227405312) : FloatKind.f64.format.order r q = some (if V r < V q then .lt else if V r = V q then .eq else .gt) := by
  have h := ordc false r q hr hq
  rw [word_f] at h
  rw [h, sv_f]
  congr 1
  by_cases h1 : V r < V q
  · rw [if_pos h1, if_pos (by omega)]
  · rw [if_neg h1, if_neg (by omega)]
    by_cases h2 : V r = V q
    · rw [if_pos h2, if_pos (by omega)]
    · rw [if_neg h2, if_neg (by omega)]
theorem abs_c (s : Bool) (r : Nat) (w : World) (hr : r < 9223372036854775808) : Calls Try.prog 25 #[.float .f64 (double.word s r)] w fun e w' => e = .returned (.float .f64 r) ∧ w = w' := by
  have h1 := bits_run (double.word s r)
  have h2 := from_run r
  have h3 := abs_word s r hr
  go_enter Try.func25, Try.ntmps25
  go_wp2
  go_ret
  exact ⟨rfl, rfl⟩
theorem isnan_c (s : Bool) (r : Nat) (w : World) (hr : r < 9223372036854775808) : Calls Try.prog 23 #[.float .f64 (double.word s r)] w fun e w' => e = .returned (.bool (decide (9218868437227405312 < r))) ∧ w = w' := by
  go_enter Try.func23, Try.ntmps23
  by_cases h : 9218868437227405312 < r
  · have h1 : FloatKind.f64.format.order (double.word s r) (double.word s r) = none := ord_nan s r _ h hr
    go_wp2
    go_ret
    exact ⟨by rw [decide_eq_true h]; rfl, rfl⟩
  · have h1 : FloatKind.f64.format.order (double.word s r) (double.word s r) = some .eq := by
      have := ord s s r r (by omega) (by omega)
      rw [if_neg (by omega), if_pos rfl] at this
      exact this
    go_wp2
    go_ret
    exact ⟨by rw [decide_eq_false h]; rfl, rfl⟩
theorem isinf_c (s : Bool) (r : Nat) (w : World) (hr : r ≤ 9218868437227405312) : Calls Try.prog 24 #[.float .f64 (double.word s r), .int .i64 0] w fun e w' => e = .returned (.bool (decide (9218868437227405312 ≤ r))) ∧ w = w' := by
  go_enter Try.func24, Try.ntmps24
  have hl : V 9218868437227405311 < V r ↔ 9218868437227405311 < r := V_lt_iff
  by_cases h : 9218868437227405312 ≤ r
  · have h1 : FloatKind.f64.format.order r 9218868437227405311 = some .gt := by
      rw [ordp r _ (by omega) (by decide), if_neg (by omega), if_neg (by omega)]
    go_wp2_with (first | (go_at_call 25; (with_reducible refine (abs_c s r _ (by omega)).mono ?_); rintro e w' ⟨rfl, rfl⟩))
    go_ret
    exact ⟨by rw [decide_eq_true h]; rfl, rfl⟩
  · have h1 : (FloatKind.f64.format.order r 9218868437227405311 == some .gt) = false := by
      rw [ordp r _ (by omega) (by decide)]
      by_cases h2 : V r < V 9218868437227405311
      · rw [if_pos h2]; rfl
      · rw [if_neg h2, if_pos (by omega)]; rfl
    go_wp2_with (first | (go_at_call 25; (with_reducible refine (abs_c s r _ (by omega)).mono ?_); rintro e w' ⟨rfl, rfl⟩))
    go_ret
    exact ⟨by rw [decide_eq_false h]; rfl, rfl⟩
theorem isnan_v (s : Bool) (r : Nat) (w : World) (hr : r < 9223372036854775808) (b : Bool) (hb : decide (9218868437227405312 < r) = b) : Calls Try.prog 23 #[.float .f64 (double.word s r)] w fun e w' => e = .returned (.bool b) ∧ w = w' := by
  subst hb; exact isnan_c s r w hr
theorem isinf_v (s : Bool) (r : Nat) (w : World) (hr : r ≤ 9218868437227405312) (b : Bool) (hb : decide (9218868437227405312 ≤ r) = b) : Calls Try.prog 24 #[.float .f64 (double.word s r), .int .i64 0] w fun e w' => e = .returned (.bool b) ∧ w = w' := by
  subst hb; exact isinf_c s r w hr
theorem big_t (r : Nat) (h : 4886405595696988160 ≤ r) (hr : r ≤ 9218868437227405312) : (FloatKind.f64.format.order r 4886405595696988160 == some .gt || FloatKind.f64.format.order r 4886405595696988160 == some .eq) = true := by
  have := V_le h
  rw [ordp r _ hr (by decide), if_neg (by omega)]
  by_cases h2 : V r = V 4886405595696988160
  · rw [if_pos h2]; rfl
  · rw [if_neg h2]; rfl
theorem big_f (r : Nat) (h : r < 4886405595696988160) : (FloatKind.f64.format.order r 4886405595696988160 == some .gt || FloatKind.f64.format.order r 4886405595696988160 == some .eq) = false := by
  rw [ordp r _ (by omega) (by decide), if_pos (V_lt h)]; rfl
theorem div_mul_self (k : Nat) : k * U / U = k := Nat.mul_div_cancel k U_pos
theorem round_c (s : Bool) (r : Nat) (w : World) (hr : r < 9223372036854775808) : Calls Try.prog 12 #[.float .f64 (double.word s r)] w fun e w' => e = .returned (.tuple #[.int .i64 (rdV s r), .int .i64 (rdE r)]) ∧ w = w' := by
  unfold rdV rdE
  by_cases h1 : 9218868437227405312 < r
  · rw [if_neg (by omega), if_neg (by omega), if_neg (by omega)]
    go_enter Try.func12, Try.ntmps12
    go_wp2_with (first | (go_at_call 23; (with_reducible refine (isnan_v s r _ hr true (decide_eq_true h1)).mono ?_); rintro e w' ⟨rfl, rfl⟩))
    go_ret2
    exact ⟨rfl, rfl⟩
  · by_cases h2 : 9218868437227405312 ≤ r
    · rw [if_neg (by omega), if_neg (by omega), if_neg (by omega)]
      go_enter Try.func12, Try.ntmps12
      go_wp2_with (first | (go_at_call 23; (with_reducible refine (isnan_v s r _ hr false (decide_eq_false h1)).mono ?_); rintro e w' ⟨rfl, rfl⟩) | (go_at_call 24; (with_reducible refine (isinf_v s r _ (by omega) true (decide_eq_true h2)).mono ?_); rintro e w' ⟨rfl, rfl⟩))
      go_ret2
      exact ⟨rfl, rfl⟩
    · by_cases h3 : 4886405595696988160 ≤ r
      · rw [if_neg (by omega), if_neg (by omega), if_pos (by omega)]
        have hb := big_t r h3 (by omega)
        go_enter Try.func12, Try.ntmps12
        go_wp2_with (first | (go_at_call 23; (with_reducible refine (isnan_v s r _ hr false (decide_eq_false h1)).mono ?_); rintro e w' ⟨rfl, rfl⟩) | (go_at_call 24; (with_reducible refine (isinf_v s r _ (by omega) false (decide_eq_false h2)).mono ?_); rintro e w' ⟨rfl, rfl⟩) | (go_at_call 25; (with_reducible refine (abs_c s r _ hr).mono ?_); rintro e w' ⟨rfl, rfl⟩))
        go_ret2
        exact ⟨rfl, rfl⟩
      · have h62 : r < 4886405595696988160 := by omega
        rw [if_pos h62, if_pos h62]
        have hb := big_f r (by omega)
        obtain ⟨q, e1, e2, e3⟩ := rnd_exact s r (by omega)
        have hrte := rte_run s r q (by omega) e1
        have hti := toint_word s q e3 (by rw [e2, div_mul_self]; have := small_rnd (r := r) (by omega); omega)
        rw [e2, div_mul_self] at hti
        have hcv : ∀ w, (convert 22 3 (.float .f64 (double.word s q))).run Try.prog w = .ok (.int .i64 (if s then -((rnd (V r) : Nat) : Int) else ((rnd (V r) : Nat) : Int))) w := fun w => run_convert_float_int w _ _ .f64 .i64 _ _ (by rw [Try.underlying22]; rfl) Try.underlying3 hti
        obtain ⟨z, hz⟩ : ∃ z : Int, z = (if s then -((rnd (V r) : Nat) : Int) else ((rnd (V r) : Nat) : Int)) := ⟨_, rfl⟩
        rw [← hz] at hcv ⊢
        clear e1 e2 e3 hti hz
        go_enter Try.func12, Try.ntmps12
        go_wp2_with (first | (go_at_call 23; (with_reducible refine (isnan_v s r _ hr false (decide_eq_false h1)).mono ?_); rintro e w' ⟨rfl, rfl⟩) | (go_at_call 24; (with_reducible refine (isinf_v s r _ (by omega) false (decide_eq_false h2)).mono ?_); rintro e w' ⟨rfl, rfl⟩) | (go_at_call 25; (with_reducible refine (abs_c s r _ hr).mono ?_); rintro e w' ⟨rfl, rfl⟩))
        go_ret2
        exact ⟨rfl, rfl⟩
/-- A NaN that the machine chooses. -/
def nb (w : World) (x y : Nat) : Nat := (Question.nanBits .f64 x y).cut (w.tape w.drawn (.nanBits .f64 x y))
theorem nb_word (w : World) (x y : Nat) : ∃ s r, nb w x y = double.word s r ∧ 9218868437227405312 < r ∧ r < 9223372036854775808 := by
  have e : nb w x y = (w.tape w.drawn (.nanBits .f64 x y)) % 2 * 9223372036854775808 + 9218868437227405312 + 1 + (w.tape w.drawn (.nanBits .f64 x y)) / 2 % 4503599627370495 := rfl
  rw [e]
  generalize w.tape w.drawn (.nanBits .f64 x y) = t
  rcases Nat.mod_two_eq_zero_or_one t with h | h
  · exact ⟨false, _, by rw [word_f, h, Nat.zero_mul, Nat.zero_add], by omega, by omega⟩
  · exact ⟨true, 9218868437227405312 + 1 + t / 2 % 4503599627370495, by rw [word_t, h]; omega, by omega, by omega⟩
theorem sub_ask {P : Program} (t : TypeId) (x y : Nat) (h : double.sub x y = none) (w : World) : (binOp .sub t (.float .f64 x) (.float .f64 y)).run P w = .ok (.float .f64 (nb w x y)) w.drew := by
  have h' : FloatKind.f64.format.sub x y = none := h
  simp [binOp, Op.floatArith, h', nb, Question.forced]
theorem nb_neq (w : World) (x y z : Nat) : (FloatKind.f64.format.order (nb w x y) z != some .eq) = true := by
  obtain ⟨s, r, e, h1, h2⟩ := nb_word w x y
  have h3 : FloatKind.f64.format.order (double.word s r) z = none := ord_nan s r z h1 h2
  rw [e, h3]; rfl
theorem sub_inf (s : Bool) : double.sub (double.word s 9218868437227405312) (double.word s 9218868437227405312) = none := by
  cases s <;> decide +kernel
theorem sub_self (s : Bool) (r : Nat) (hr : r < 9218868437227405312) : ∃ g, double.sub (double.word s r) (double.word s r) = some (double.word g 0) := by
  obtain ⟨g, p, e, h, _⟩ := sub_word s s r r hr hr
  have e0 : (sv s r - sv s r).natAbs = 0 := by rw [Int.sub_self]; rfl
  rw [e0] at h
  obtain rfl := isN_exact (q0 := 0) h V_zero (by decide)
  exact ⟨g, e⟩
theorem zero_eq (g : Bool) : (FloatKind.f64.format.order (double.word g 0) 0 != some .eq) = false := by
  cases g <;> decide +kernel
theorem above_c (s : Bool) (r : Nat) (w : World) (h : s = false ∨ V r = 0) (hr : r < 4886405595696988160) : Calls Try.prog 27 #[.float .f64 (double.word s r)] w fun e w' => e = .returned (.int .i64 ((rnd (V r) : Nat) : Int)) ∧ w = w' := by
  have hs : sv s r = (V r : Int) := by
    rcases h with rfl | h
    · rfl
    · cases s <;> simp [sv, h]
  have hd := small_div hr
  have hti := toint_word s r (by omega) (by omega)
  have hz : (if s then -((V r / U : Nat) : Int) else ((V r / U : Nat) : Int)) = ((V r / U : Nat) : Int) := by
    rcases h with rfl | h
    · rfl
    · rw [h, Nat.zero_div]; cases s <;> rfl
  rw [hz] at hti
  have hcv : ∀ w, (convert 22 3 (.float .f64 (double.word s r))).run Try.prog w = .ok (.int .i64 ((V r / U : Nat) : Int)) w := fun w => run_convert_float_int w _ _ .f64 .i64 _ _ (by rw [Try.underlying22]; rfl) Try.underlying3 hti
  clear hti hz
  rcases Nat.lt_or_ge r 4841369599423283200 with h1 | h1
  · have hb : (FloatKind.f64.format.order (double.word s r) 4841369599423283200 == some .gt || FloatKind.f64.format.order (double.word s r) 4841369599423283200 == some .eq) = false := by
      rw [ordc s r _ (by omega) (by decide), if_pos (by rw [hs]; have := V_lt h1; omega)]; rfl
    have hn : V r / U < 4503599627370496 := (Nat.div_lt_iff_lt_mul U_pos).2 (by rw [← V_R52]; exact V_lt h1)
    -- the whole part as a float
    obtain ⟨qn, f1, f2⟩ := int_isN ((V r / U : Nat) : Int)
    rw [decide_eq_false (Int.not_lt.2 (Int.natCast_nonneg (V r / U))), word_f] at f1
    rw [Int.natAbs_natCast, ← U_def] at f2
    obtain ⟨p, f3, f4⟩ := rep_whole (V r / U) (by omega)
    obtain rfl := isN_exact (q0 := p) f2 f3 (by omega)
    obtain ⟨g, q, g1, g2, g3⟩ := sub_word s false r qn (by omega) f4
    rw [word_f] at g1
    obtain ⟨p, g4, g5⟩ := rest_rep r h1
    have hmod := Nat.div_add_mod (V r) U
    have hval : sv s r - sv false qn = ((V r % U : Nat) : Int) := by
      rw [hs, sv_f, f3, Nat.mul_comm]; omega
    rw [hval, Int.natAbs_natCast] at g2
    obtain rfl := isN_exact (q0 := p) g2 g4 (by omega)
    have hsub : ∀ t w, (binOp .sub t (.float .f64 (double.word s r)) (.float .f64 (floatOfInt .f64 ((V r / U : Nat) : Int)))).run Try.prog w = .ok (.float .f64 (double.word g q)) w := fun t w => run_float_arith w .sub t .f64 _ _ _ (by rw [f1]; exact g1)
    have hg : sv g q = (V q : Int) := by
      rcases Nat.eq_zero_or_pos (V r % U) with h0 | h0
      · have : V q = 0 := by omega
        cases g <;> simp [sv, this]
      · have := g3 (by rw [hval]; omega)
        rw [hval, decide_eq_false (by omega)] at this
        rw [this, sv_f]
    have ho := ordc g q 4602678819172646912 (by omega) (by decide)
    rw [hg] at ho
    have hh := V_half
    have hrn : rnd (V r) = if 2 * V q < U ∨ (2 * V q = U ∧ V r / U % 2 = 0) then V r / U else V r / U + 1 := by unfold rnd; rw [g4]
    generalize V r / U = n at *
    generalize rnd (V r) = R at *
    have hm : (n : Int).tmod 2 = ((n % 2 : Nat) : Int) := by rw [Int.tmod_eq_emod_of_nonneg (by omega)]; omega
    clear f1 f2 f3 f4 g1 g2 g3 g4 g5 hmod hval hs hg h hd
    go_enter Try.func27, Try.ntmps27
    rcases Nat.lt_trichotomy (V q) (V 4602678819172646912) with c | c | c
    · rw [if_pos (by omega)] at ho hrn
      subst hrn
      go_wp2
      go_ret
      exact ⟨rfl, rfl⟩
    · rw [if_neg (by omega), if_pos (by omega)] at ho
      rcases Nat.mod_two_eq_zero_or_one n with hn2 | hn2
      · rw [if_pos (.inr ⟨by omega, hn2⟩)] at hrn
        subst hrn
        rw [hn2] at hm
        go_wp2
        go_ret
        exact ⟨rfl, rfl⟩
      · rw [if_neg (by omega)] at hrn
        subst hrn
        rw [hn2] at hm
        go_wp2
        go_ret
        exact ⟨by go_num, rfl⟩
    · rw [if_neg (by omega), if_neg (by omega)] at ho
      rw [if_neg (by omega)] at hrn
      subst hrn
      go_wp2
      go_ret
      exact ⟨by go_num, rfl⟩
  · have hb : (FloatKind.f64.format.order (double.word s r) 4841369599423283200 == some .gt || FloatKind.f64.format.order (double.word s r) 4841369599423283200 == some .eq) = true := by
      have := V_le h1
      rw [ordc s r _ (by omega) (by decide), if_neg (by rw [hs]; omega)]
      split <;> rfl
    rw [rnd_whole (whole_from r h1)]
    generalize V r / U = n at *
    clear hs h
    go_enter Try.func27, Try.ntmps27
    go_wp2
    go_ret
    exact ⟨rfl, rfl⟩
theorem refround_c (s : Bool) (r : Nat) (w : World) (hr : r < 9223372036854775808) : Calls Try.prog 13 #[.float .f64 (double.word s r)] w fun e w' => e = .returned (.tuple #[.int .i64 (rdV s r), .int .i64 (rdE r)]) ∧ Dr w w' := by
  unfold rdV rdE
  by_cases h1 : 9218868437227405312 < r
  · rw [if_neg (by omega), if_neg (by omega), if_neg (by omega)]
    have hn : FloatKind.f64.format.order (double.word s r) (double.word s r) = none := ord_nan s r _ h1 hr
    go_enter Try.func13, Try.ntmps13
    go_wp2
    go_ret2
    exact ⟨rfl, Dr.refl _⟩
  · have hn : FloatKind.f64.format.order (double.word s r) (double.word s r) = some .eq := by
      have := ord s s r r (by omega) (by omega)
      rw [if_neg (by omega), if_pos rfl] at this
      exact this
    by_cases h2 : 9218868437227405312 ≤ r
    · rw [if_neg (by omega), if_neg (by omega), if_neg (by omega)]
      obtain rfl : r = 9218868437227405312 := by omega
      have hsub : ∀ t w, (binOp .sub t (.float .f64 (double.word s 9218868437227405312)) (.float .f64 (double.word s 9218868437227405312))).run Try.prog w = .ok (.float .f64 (nb w (double.word s 9218868437227405312) (double.word s 9218868437227405312))) w.drew := fun t w => sub_ask t _ _ (sub_inf s) w
      have hne := nb_neq w (double.word s 9218868437227405312) (double.word s 9218868437227405312) 0
      go_enter Try.func13, Try.ntmps13
      go_wp2
      go_ret2
      exact ⟨rfl, Dr.one _⟩
    · obtain ⟨g, e0⟩ := sub_self s r (by omega)
      have hsub : ∀ t w, (binOp .sub t (.float .f64 (double.word s r)) (.float .f64 (double.word s r))).run Try.prog w = .ok (.float .f64 (double.word g 0)) w := fun t w => run_float_arith w .sub t .f64 _ _ _ e0
      have hz := zero_eq g
      have o1 := ordc s r 4886405595696988160 (by omega) (by decide)
      have o2 : FloatKind.f64.format.order (double.word s r) 14109777632551763968 = _ := ord s true r 4886405595696988160 (by omega) (by decide)
      rw [show sv true 4886405595696988160 = -(V 4886405595696988160 : Int) from rfl] at o2
      by_cases h3 : 4886405595696988160 ≤ r
      · rw [if_neg (by omega), if_neg (by omega), if_pos (by omega)]
        have hv := V_le h3
        have hb : (FloatKind.f64.format.order (double.word s r) 4886405595696988160 == some .gt || FloatKind.f64.format.order (double.word s r) 4886405595696988160 == some .eq) = !s ∧ (s = true → (FloatKind.f64.format.order (double.word s r) 14109777632551763968 == some .lt || FloatKind.f64.format.order (double.word s r) 14109777632551763968 == some .eq) = true) := by
          have hp := V_pos (show 0 < 4886405595696988160 by decide)
          rw [o1, o2]
          generalize V 4886405595696988160 = A at *
          cases s
          · rw [sv_f]
            refine ⟨?_, fun h => by cases h⟩
            rw [if_neg (by omega)]
            split <;> rfl
          · rw [sv_t]
            refine ⟨by rw [if_pos (by omega)]; rfl, fun _ => ?_⟩
            split
            · rfl
            · rw [if_pos (by omega)]; rfl
        obtain ⟨hb1, hb2⟩ := hb
        clear o1 o2 e0
        cases s
        · clear hb2
          go_enter Try.func13, Try.ntmps13
          go_wp2
          go_ret2
          exact ⟨rfl, Dr.refl _⟩
        · replace hb2 := hb2 rfl
          go_enter Try.func13, Try.ntmps13
          go_wp2
          go_ret2
          exact ⟨rfl, Dr.refl _⟩
      · have h62 : r < 4886405595696988160 := by omega
        rw [if_pos h62, if_pos h62]
        have hv := V_lt (show r < 4886405595696988160 by omega)
        have hb1 : (FloatKind.f64.format.order (double.word s r) 4886405595696988160 == some .gt || FloatKind.f64.format.order (double.word s r) 4886405595696988160 == some .eq) = false := by
          rw [o1, if_pos (by cases s <;> simp only [sv, if_true, Bool.false_eq_true, if_false] <;> omega)]; rfl
        have hb2 : (FloatKind.f64.format.order (double.word s r) 14109777632551763968 == some .lt || FloatKind.f64.format.order (double.word s r) 14109777632551763968 == some .eq) = false := by
          rw [o2, if_neg (by cases s <;> simp only [sv, if_true, Bool.false_eq_true, if_false] <;> omega), if_neg (by cases s <;> simp only [sv, if_true, Bool.false_eq_true, if_false] <;> omega)]; rfl
        have o3 := ordc s r 0 (by omega) (by decide)
        rw [V_zero] at o3
        have hneg : Op.negFloat .f64 (double.word s r) = double.word (!s) r := neg_word s r hr
        clear o1 o2 e0
        by_cases h4 : s = true ∧ 0 < V r
        · obtain ⟨rfl, h4⟩ := h4
          have hlt : (FloatKind.f64.format.order (double.word true r) 0 == some .lt) = true := by rw [o3, if_pos (by rw [sv_t]; omega)]; rfl
          have hcall := fun w => above_c false r w (.inl rfl) (by omega)
          have hun : ∀ w, (Op.unary .neg (.float .f64 (double.word true r))).run Try.prog w = .ok (.float .f64 (double.word false r)) w := fun w => by
            show Result.ok (Value.float .f64 (Op.negFloat .f64 (double.word true r))) w = _
            rw [hneg]; rfl
          rw [if_pos rfl]
          clear o3
          go_enter Try.func13, Try.ntmps13
          go_wp2_with (first | (go_at_call 27; (with_reducible refine (hcall _).mono ?_); rintro e w' ⟨rfl, rfl⟩))
          go_ret2
          refine ⟨?_, Dr.refl _⟩
          have hs := small_rnd (r := r) (by omega)
          clear hcall
          generalize rnd (V r) = R at *
          clear h4 hv
          have e9 : wrap64 (-((R : Nat) : Int)) = -((R : Nat) : Int) := w64_in (by omega) (by omega)
          show Ending.returned (.tuple #[.int .i64 (wrap64 (-((R : Nat) : Int))), .int .i64 0]) = _
          rw [e9]
        · have hlt : (FloatKind.f64.format.order (double.word s r) 0 == some .lt) = false := by
            rw [o3, if_neg (by cases s <;> simp only [sv, if_true, Bool.false_eq_true, if_false] <;> simp at h4 <;> omega)]
            split <;> rfl
          have hor : s = false ∨ V r = 0 := by cases s <;> simp at h4 ⊢; omega
          have hcall := fun w => above_c s r w hor (by omega)
          have hres : (if s then -((rnd (V r) : Nat) : Int) else ((rnd (V r) : Nat) : Int)) = ((rnd (V r) : Nat) : Int) := by
            rcases hor with rfl | h0
            · rfl
            · rw [h0, rnd_whole (Nat.zero_mod U), Nat.zero_div]; cases s <;> rfl
          rw [hres]
          clear o3 hor h4 hres
          go_enter Try.func13, Try.ntmps13
          go_wp2_with (first | (go_at_call 27; (with_reducible refine (hcall _).mono ?_); rintro e w' ⟨rfl, rfl⟩))
          go_ret2
          exact ⟨rfl, Dr.refl _⟩
theorem wf_lt {x : Nat} (h : (Lit.float .f64 x).wf = true) : x < 18446744073709551616 := by
  simpa [Lit.wf] using h
theorem rounds (x : Nat) (w : World) (hx : (Lit.float .f64 x).wf = true) : Calls Try.prog 4 #[.float .f64 x] w fun e w' => e = .returned (.bool true) ∧ Below w.heap.size w w' := by
  obtain ⟨s, r, rfl, hr⟩ := word_of x (wf_lt hx)
  go_enter Try.func4, Try.ntmps4
  go_wp2_with (first | (go_at_call 12; (with_reducible refine (round_c s r _ hr).mono ?_); rintro e w' ⟨rfl, rfl⟩) | (go_at_call 13; (with_reducible refine (refround_c s r _ hr).mono ?_); rintro e w' ⟨rfl, hd⟩))
  go_ret
  exact ⟨rfl, Dr.below (by assumption)⟩
end Go.Proofs.Ytfehdajjnbehdaa.Round
