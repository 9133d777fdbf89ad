/- Tests on floats: IsNaN, IsInf; a float less itself. -/
import Derived.Test.YtmpjcjgdjimioaaWords
import Derived.Test.YtmpjcjgdjimioaaAid
import Derived.Test.YtmpjcjgdjimioaaMem
import Derived.Below
import Derived.WalkKit
import Derived.Test.YtmpjcjgdjimioaaRows
import Derived.Lib.Hide
import Derived.Laws.Externs
import Derived.Laws.Unary
import Derived.Laws.NewFold
namespace Go.Proofs.Ytmpjcjgdjimioaa.Round
open Go.RowKit Go.Proofs.Ytmpjcjgdjimioaa.Aid Go.Proofs.Ytmpjcjgdjimioaa.Fl Go.Proofs.Ytmpjcjgdjimioaa.Mem
open Ieee (double Toward Format)
set_option linter.unusedSimpArgs false
theorem bits_run (x : Nat) (w : World) : (callFunc 37 #[.float .f64 x]).run Try.prog w = .ok (.value (.int .u64 (x : Int))) w := by
  have h := run_callFunc_extern (P := Try.prog) (f := 37) (e := Extern.MathFloatBits.float64bits) Try.func37 (by kernel_rfl) (by kernel_rfl) (by kernel_rfl) (by rfl) #[.float .f64 x] w
  rw [h]; rfl
theorem from_run (x : Nat) (w : World) : (callFunc 18 #[.int .u64 ((x : Nat) : Int)]).run Try.prog w = .ok (.value (.float .f64 x)) w := by
  have h := run_callFunc_extern (P := Try.prog) (f := 18) (e := Extern.MathFloatBits.float64frombits) Try.func18 (by kernel_rfl) (by kernel_rfl) (by kernel_rfl) (by rfl) #[.int .u64 ((x : Nat) : Int)] w
  rw [h]; rfl

theorem ordc (s : Bool) (r q : Nat) (hr : r ≤ 9218868437227405312) (hq : q ≤ 9218868437227405312) : FloatKind.f64.format.order (double.word s r) q = some (if sv s r < (V q : Int) then .lt else if sv s r = (V q : Int) then .eq else .gt) := by
  have h := ord s false r q hr hq
  rw [word_f] at h
  exact h
theorem ordp (r q : Nat) (hr : r ≤ 9218868437227405312) (hq : q ≤ 9218868437227405312) : FloatKind.f64.format.order r q = some (if V r < V q then .lt else if V r = V q then .eq else .gt) := by
  have h := ordc false r q hr hq
  rw [word_f] at h
  rw [h, sv_f]
  congr 1
  by_cases h1 : V r < V q
  · rw [if_pos h1, if_pos (by omega)]
  · rw [if_neg h1, if_neg (by omega)]
    by_cases h2 : V r = V q
    · rw [if_pos h2, if_pos (by omega)]
    · rw [if_neg h2, if_neg (by omega)]
theorem abs_c (s : Bool) (r : Nat) (w : World) (hr : r < 9223372036854775808) : Calls Try.prog 65 #[.float .f64 (double.word s r)] w fun e w' => e = .returned (.float .f64 r) ∧ w = w' := by
  have h1 := bits_run (double.word s r)
  have h2 := from_run r
  have h3 := abs_word s r hr
  go_enter Try.func65, Try.ntmps65
  go_wp2
  go_ret
  exact ⟨rfl, rfl⟩
theorem isnan_c (s : Bool) (r : Nat) (w : World) (hr : r < 9223372036854775808) : Calls Try.prog 44 #[.float .f64 (double.word s r)] w fun e w' => e = .returned (.bool (decide (9218868437227405312 < r))) ∧ w = w' := by
  go_enter Try.func44, Try.ntmps44
  by_cases h : 9218868437227405312 < r
  · have h1 : FloatKind.f64.format.order (double.word s r) (double.word s r) = none := ord_nan s r _ h hr
    go_wp2
    go_ret
    exact ⟨by rw [decide_eq_true h]; rfl, rfl⟩
  · have h1 : FloatKind.f64.format.order (double.word s r) (double.word s r) = some .eq := by
      have := ord s s r r (by omega) (by omega)
      rw [if_neg (by omega), if_pos rfl] at this
      exact this
    go_wp2
    go_ret
    exact ⟨by rw [decide_eq_false h]; rfl, rfl⟩
theorem isinf_c (s : Bool) (r : Nat) (w : World) (hr : r ≤ 9218868437227405312) : Calls Try.prog 53 #[.float .f64 (double.word s r), .int .i64 0] w fun e w' => e = .returned (.bool (decide (9218868437227405312 ≤ r))) ∧ w = w' := by
  go_enter Try.func53, Try.ntmps53
  have hl : V 9218868437227405311 < V r ↔ 9218868437227405311 < r := V_lt_iff
  by_cases h : 9218868437227405312 ≤ r
  · have h1 : FloatKind.f64.format.order r 9218868437227405311 = some .gt := by
      rw [ordp r _ (by omega) (by decide), if_neg (by omega), if_neg (by omega)]
    go_wp2_with (first | (go_at_call 65; (with_reducible refine (abs_c s r _ (by omega)).mono ?_); rintro e w' ⟨rfl, rfl⟩))
    go_ret
    exact ⟨by rw [decide_eq_true h]; rfl, rfl⟩
  · have h1 : (FloatKind.f64.format.order r 9218868437227405311 == some .gt) = false := by
      rw [ordp r _ (by omega) (by decide)]
      by_cases h2 : V r < V 9218868437227405311
      · rw [if_pos h2]; rfl
      · rw [if_neg h2, if_pos (by omega)]; rfl
    go_wp2_with (first | (go_at_call 65; (with_reducible refine (abs_c s r _ (by omega)).mono ?_); rintro e w' ⟨rfl, rfl⟩))
    go_ret
    exact ⟨by rw [decide_eq_false h]; rfl, rfl⟩
theorem isnan_v (s : Bool) (r : Nat) (w : World) (hr : r < 9223372036854775808) (b : Bool) (hb : decide (9218868437227405312 < r) = b) : Calls Try.prog 44 #[.float .f64 (double.word s r)] w fun e w' => e = .returned (.bool b) ∧ w = w' := by
  subst hb; exact isnan_c s r w hr
theorem isinf_v (s : Bool) (r : Nat) (w : World) (hr : r ≤ 9218868437227405312) (b : Bool) (hb : decide (9218868437227405312 ≤ r) = b) : Calls Try.prog 53 #[.float .f64 (double.word s r), .int .i64 0] w fun e w' => e = .returned (.bool b) ∧ w = w' := by
  subst hb; exact isinf_c s r w hr

/-- A NaN that the machine chooses. -/
def nb (w : World) (x y : Nat) : Nat := (Question.nanBits .f64 x y).cut (w.tape w.drawn (.nanBits .f64 x y))
theorem nb_word (w : World) (x y : Nat) : ∃ s r, nb w x y = double.word s r ∧ 9218868437227405312 < r ∧ r < 9223372036854775808 := by
  have e : nb w x y = (w.tape w.drawn (.nanBits .f64 x y)) % 2 * 9223372036854775808 + 9218868437227405312 + 1 + (w.tape w.drawn (.nanBits .f64 x y)) / 2 % 4503599627370495 := rfl
  rw [e]
  generalize w.tape w.drawn (.nanBits .f64 x y) = t
  rcases Nat.mod_two_eq_zero_or_one t with h | h
  · exact ⟨false, _, by rw [word_f, h, Nat.zero_mul, Nat.zero_add], by omega, by omega⟩
  · exact ⟨true, 9218868437227405312 + 1 + t / 2 % 4503599627370495, by rw [word_t, h]; omega, by omega, by omega⟩
theorem sub_ask {P : Program} (t : TypeId) (x y : Nat) (h : double.sub x y = none) (w : World) : (binOp .sub t (.float .f64 x) (.float .f64 y)).run P w = .ok (.float .f64 (nb w x y)) w.drew := by
  have h' : FloatKind.f64.format.sub x y = none := h
  simp [binOp, Op.floatArith, h', nb, Question.forced]
theorem nb_neq (w : World) (x y z : Nat) : (FloatKind.f64.format.order (nb w x y) z != some .eq) = true := by
  obtain ⟨s, r, e, h1, h2⟩ := nb_word w x y
  have h3 : FloatKind.f64.format.order (double.word s r) z = none := ord_nan s r z h1 h2
  rw [e, h3]; rfl
theorem sub_inf (s : Bool) : double.sub (double.word s 9218868437227405312) (double.word s 9218868437227405312) = none := by
  cases s <;> decide +kernel
theorem sub_self (s : Bool) (r : Nat) (hr : r < 9218868437227405312) : ∃ g, double.sub (double.word s r) (double.word s r) = some (double.word g 0) := by
  obtain ⟨g, p, e, h, _⟩ := sub_word s s r r hr hr
  have e0 : (sv s r - sv s r).natAbs = 0 := by rw [Int.sub_self]; rfl
  rw [e0] at h
  obtain rfl := isN_exact (q0 := 0) h V_zero (by decide)
  exact ⟨g, e⟩
theorem zero_eq (g : Bool) : (FloatKind.f64.format.order (double.word g 0) 0 != some .eq) = false := by
  cases g <;> decide +kernel

end Go.Proofs.Ytmpjcjgdjimioaa.Round
