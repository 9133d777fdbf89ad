/- The walk of FareNear, and the law. -/
import Derived.Test.YtfehdajjnbehdaaNear
namespace Go.Proofs.Ytfehdajjnbehdaa.Near
open Go.RowKit Go.Proofs.Ytfehdajjnbehdaa.Aid Go.Proofs.Ytfehdajjnbehdaa.Fl Go.Proofs.Ytfehdajjnbehdaa.Mem Go.Proofs.Ytfehdajjnbehdaa.Round Go.Proofs.Ytfehdajjnbehdaa.AliveR Go.Proofs.Ytfehdajjnbehdaa.Keep
open Ieee (double Toward Format)
set_option linter.unusedSimpArgs false
set_option linter.unusedVariables false
theorem n_or (s : Bool) (r : Nat) (hr : r < 4886405595696988160) : (rdV s r = (rnd (V r) : Int) ∧ s = false ∨ rdV s r = -(rnd (V r) : Int) ∧ s = true) ∧ rdV (!s) r = - rdV s r := by
  unfold rdV
  rw [if_pos hr, if_pos hr]
  cases s <;> simp
set_option maxHeartbeats 2000000 in
theorem near_nan (s : Bool) (r : Nat) (k : Int) (w : World) (hr : r < 9223372036854775808) (h1 : 9218868437227405312 < r) (hk : -2147483648 ≤ k ∧ k ≤ 2147483647) :
    Calls Try.prog 8 #[.float .f64 (double.word s r), .int .i32 k] w fun e w' => e = .returned (.bool true) ∧ Below w.heap.size w w' := by
  have hn : FloatKind.f64.format.order (double.word s r) (double.word s r) = none := ord_nan s r _ h1 hr
  have hun := neg_run s r hr
  have z1 : Hid (rdV s r = 0) := Lib.hid (by unfold rdV; rw [if_neg (by omega)])
  have z2 : Hid (rdV (!s) r = 0) := Lib.hid (by unfold rdV; rw [if_neg (by omega)])
  have z3 : Hid (rdE r = 1) := Lib.hid (by unfold rdE; rw [if_neg (by omega), if_neg (by omega)])
  obtain ⟨k0, k1⟩ := hk
  go_enter Try.func8, Try.ntmps8
  go_wp2_with (first | (go_at_call 12; (with_reducible refine (round_k k _ (by omega)).mono ?_); rintro e w' ⟨rfl, rfl⟩) | (go_at_call 12; (with_reducible refine (round_v s r 0 1 _ hr z1 z3).mono ?_); rintro e w' ⟨rfl, rfl⟩) | (go_at_call 12; (with_reducible refine (round_v (!s) r 0 1 _ hr z2 z3).mono ?_); rintro e w' ⟨rfl, rfl⟩) | (go_at_call 16; with_reducible refine (alive_c _).mono ?_; rintro e w1 ⟨rfl, hb⟩; have HB1 := Lib.hid hb; clear hb))
  go_ret
  exact ⟨rfl, HB1.out⟩
set_option maxHeartbeats 2000000 in
theorem near_inf (s : Bool) (k : Int) (w : World) (hk : -2147483648 ≤ k ∧ k ≤ 2147483647) :
    Calls Try.prog 8 #[.float .f64 (double.word s 9218868437227405312), .int .i32 k] w fun e w' => e = .returned (.bool true) ∧ Below w.heap.size w w' := by
  have hn : FloatKind.f64.format.order (double.word s 9218868437227405312) (double.word s 9218868437227405312) = some .eq := by
    have := ord s s 9218868437227405312 9218868437227405312 (by decide) (by decide)
    rw [if_neg (by omega), if_pos rfl] at this
    exact this
  have hsub : ∀ t w, (binOp .sub t (.float .f64 (double.word s 9218868437227405312)) (.float .f64 (double.word s 9218868437227405312))).run Try.prog w = .ok (.float .f64 (nb w (double.word s 9218868437227405312) (double.word s 9218868437227405312))) w.drew := fun t w => sub_ask t _ _ (sub_inf s) w
  have hun := neg_run s 9218868437227405312 (by decide)
  have z1 : Hid (rdV s 9218868437227405312 = 0) := Lib.hid (by unfold rdV; rw [if_neg (by omega)])
  have z2 : Hid (rdV (!s) 9218868437227405312 = 0) := Lib.hid (by unfold rdV; rw [if_neg (by omega)])
  have z3 : Hid (rdE 9218868437227405312 = 1) := Lib.hid (by unfold rdE; rw [if_neg (by omega), if_neg (by omega)])
  obtain ⟨k0, k1⟩ := hk
  go_enter Try.func8, Try.ntmps8
  go_wp2_with (first | (go_at_call 12; (with_reducible refine (round_k k _ (by omega)).mono ?_); rintro e w' ⟨rfl, rfl⟩) | (go_at_call 12; (with_reducible refine (round_v s _ 0 1 _ (by decide) z1 z3).mono ?_); rintro e w' ⟨rfl, rfl⟩) | (go_at_call 12; (with_reducible refine (round_v (!s) _ 0 1 _ (by decide) z2 z3).mono ?_); rintro e w' ⟨rfl, rfl⟩) | (go_at_call 16; with_reducible refine (alive_c _).mono ?_; rintro e w1 ⟨rfl, hb⟩; have HB1 := Lib.hid hb; have hne := nb_neq w1 (double.word s 9218868437227405312) (double.word s 9218868437227405312) 0; clear hb))
  go_ret
  exact ⟨rfl, HB1.out.drew⟩
set_option maxHeartbeats 2000000 in
theorem near_big_f (r : Nat) (k : Int) (w : World) (h1 : 4886405595696988160 ≤ r) (h2 : r < 9218868437227405312) (hk : -2147483648 ≤ k ∧ k ≤ 2147483647) :
    Calls Try.prog 8 #[.float .f64 (double.word false r), .int .i32 k] w fun e w' => e = .returned (.bool true) ∧ Below w.heap.size w w' := by
  have hr : r < 9223372036854775808 := by omega
  have hn : FloatKind.f64.format.order (double.word false r) (double.word false r) = some .eq := by
    have := ord false false r r (by omega) (by omega)
    rw [if_neg (by omega), if_pos rfl] at this
    exact this
  obtain ⟨g0, e0⟩ := sub_self false r (by omega)
  have hsub : ∀ t w, (binOp .sub t (.float .f64 (double.word false r)) (.float .f64 (double.word false r))).run Try.prog w = .ok (.float .f64 (double.word g0 0)) w := fun t w => run_float_arith w .sub t .f64 _ _ _ e0
  have hz := zero_eq g0
  have hun : ∀ w, (Op.unary .neg (.float .f64 (double.word false r))).run Try.prog w = .ok (.float .f64 (double.word true r)) w := neg_run false r hr
  have o3 := ordc false r 0 (by omega) (by decide)
  rw [V_zero] at o3
  obtain ⟨k0, k1⟩ := hk
  clear e0
  have hp := V_pos (show 0 < 4886405595696988160 by decide)
  have hv := V_le h1
  have z1 : Hid (rdV false r = 0) := Lib.hid (by unfold rdV; rw [if_neg (by omega)])
  have z2 : Hid (rdV true r = 0) := Lib.hid (by unfold rdV; rw [if_neg (by omega)])
  have z3 : Hid (rdE r = 3) := Lib.hid (by unfold rdE; rw [if_neg (by omega), if_pos (by omega)])
  have ob : (FloatKind.f64.format.order (double.word false r) 4886405595696988160 == some .gt || FloatKind.f64.format.order (double.word false r) 4886405595696988160 == some .eq) = true := by
    rw [ordc false r 4886405595696988160 (by omega) (by decide), sv_f, if_neg (by omega)]
    split <;> rfl
  have hlt : (FloatKind.f64.format.order (double.word false r) 0 == some .lt) = false := by
    rw [o3, sv_f, if_neg (by omega)]
    split <;> rfl
  clear o3 hv hp
  go_enter Try.func8, Try.ntmps8
  go_wp2_with (first | (go_at_call 12; (with_reducible refine (round_k k _ (by omega)).mono ?_); rintro e w' ⟨rfl, rfl⟩) | (go_at_call 12; (with_reducible refine (round_v false r 0 3 _ hr z1 z3).mono ?_); rintro e w' ⟨rfl, rfl⟩) | (go_at_call 12; (with_reducible refine (round_v true r 0 3 _ hr z2 z3).mono ?_); rintro e w' ⟨rfl, rfl⟩) | (go_at_call 16; with_reducible refine (alive_c _).mono ?_; rintro e w1 ⟨rfl, hb⟩; have HB1 := Lib.hid hb; clear hb))
  go_ret
  exact ⟨rfl, HB1.out⟩
set_option maxHeartbeats 2000000 in
theorem near_big_t (r : Nat) (k : Int) (w : World) (h1 : 4886405595696988160 ≤ r) (h2 : r < 9218868437227405312) (hk : -2147483648 ≤ k ∧ k ≤ 2147483647) :
    Calls Try.prog 8 #[.float .f64 (double.word true r), .int .i32 k] w fun e w' => e = .returned (.bool true) ∧ Below w.heap.size w w' := by
  have hr : r < 9223372036854775808 := by omega
  have hn : FloatKind.f64.format.order (double.word true r) (double.word true r) = some .eq := by
    have := ord true true r r (by omega) (by omega)
    rw [if_neg (by omega), if_pos rfl] at this
    exact this
  obtain ⟨g0, e0⟩ := sub_self true r (by omega)
  have hsub : ∀ t w, (binOp .sub t (.float .f64 (double.word true r)) (.float .f64 (double.word true r))).run Try.prog w = .ok (.float .f64 (double.word g0 0)) w := fun t w => run_float_arith w .sub t .f64 _ _ _ e0
  have hz := zero_eq g0
  have hun : ∀ w, (Op.unary .neg (.float .f64 (double.word true r))).run Try.prog w = .ok (.float .f64 (double.word false r)) w := neg_run true r hr
  have o3 := ordc true r 0 (by omega) (by decide)
  rw [V_zero] at o3
  obtain ⟨k0, k1⟩ := hk
  clear e0
  have hp := V_pos (show 0 < 4886405595696988160 by decide)
  have hv := V_le h1
  have z1 : Hid (rdV true r = 0) := Lib.hid (by unfold rdV; rw [if_neg (by omega)])
  have z2 : Hid (rdV false r = 0) := Lib.hid (by unfold rdV; rw [if_neg (by omega)])
  have z3 : Hid (rdE r = 3) := Lib.hid (by unfold rdE; rw [if_neg (by omega), if_pos (by omega)])
  have ob : (FloatKind.f64.format.order (double.word false r) 4886405595696988160 == some .gt || FloatKind.f64.format.order (double.word false r) 4886405595696988160 == some .eq) = true := by
    rw [ordc false r 4886405595696988160 (by omega) (by decide), sv_f, if_neg (by omega)]
    split <;> rfl
  have hlt : (FloatKind.f64.format.order (double.word true r) 0 == some .lt) = true := by
    rw [o3, sv_t, if_pos (by omega)]; rfl
  clear o3 hv hp
  go_enter Try.func8, Try.ntmps8
  go_wp2_with (first | (go_at_call 12; (with_reducible refine (round_k k _ (by omega)).mono ?_); rintro e w' ⟨rfl, rfl⟩) | (go_at_call 12; (with_reducible refine (round_v true r 0 3 _ hr z1 z3).mono ?_); rintro e w' ⟨rfl, rfl⟩) | (go_at_call 12; (with_reducible refine (round_v false r 0 3 _ hr z2 z3).mono ?_); rintro e w' ⟨rfl, rfl⟩) | (go_at_call 16; with_reducible refine (alive_c _).mono ?_; rintro e w1 ⟨rfl, hb⟩; have HB1 := Lib.hid hb; clear hb))
  go_ret
  exact ⟨rfl, HB1.out⟩
set_option maxHeartbeats 2000000 in
theorem near_mid_f (r : Nat) (k : Int) (w : World) (h52 : 4841369599423283200 ≤ r) (h62 : r < 4886405595696988160) (hk : -2147483648 ≤ k ∧ k ≤ 2147483647) :
    Calls Try.prog 8 #[.float .f64 (double.word false r), .int .i32 k] w fun e w' => e = .returned (.bool true) ∧ Below w.heap.size w w' := by
  have hr : r < 9223372036854775808 := by omega
  have hn : FloatKind.f64.format.order (double.word false r) (double.word false r) = some .eq := by
    have := ord false false r r (by omega) (by omega)
    rw [if_neg (by omega), if_pos rfl] at this
    exact this
  obtain ⟨g0, e0⟩ := sub_self false r (by omega)
  have hsub : ∀ t w, (binOp .sub t (.float .f64 (double.word false r)) (.float .f64 (double.word false r))).run Try.prog w = .ok (.float .f64 (double.word g0 0)) w := fun t w => run_float_arith w .sub t .f64 _ _ _ e0
  have hz := zero_eq g0
  have hun : ∀ w, (Op.unary .neg (.float .f64 (double.word false r))).run Try.prog w = .ok (.float .f64 (double.word true r)) w := neg_run false r hr
  have o3 := ordc false r 0 (by omega) (by decide)
  rw [V_zero] at o3
  obtain ⟨k0, k1⟩ := hk
  clear e0
  have hsm := small_rnd h62
  obtain ⟨R, eR⟩ : ∃ R : Int, (rnd (V r) : Int) = R := ⟨_, rfl⟩
  have R0 : 0 ≤ R := by omega
  have R1 : R ≤ 4611686018427387904 := by omega
  have z1 : Hid (rdV false r = R) := Lib.hid (by unfold rdV; rw [if_pos h62, ← eR]; rfl)
  have z2 : Hid (rdV true r = (-R)) := Lib.hid (by unfold rdV; rw [if_pos h62, ← eR]; rfl)
  have z3 : Hid (rdE r = 0) := Lib.hid (by unfold rdE; rw [if_pos h62])
  have hv62 := V_lt h62
  have ob : (FloatKind.f64.format.order (double.word false r) 4886405595696988160 == some .gt || FloatKind.f64.format.order (double.word false r) 4886405595696988160 == some .eq) = false := by
    rw [ordc false r 4886405595696988160 (by omega) (by decide), sv_f, if_pos (by omega)]; rfl
  have hlt : (FloatKind.f64.format.order (double.word false r) 0 == some .lt) = false := by
    rw [o3, sv_f, if_neg (by omega)]
    split <;> rfl
  clear o3 hv62 hsm
  have hv52 := V_le h52
  have oc : (FloatKind.f64.format.order (double.word false r) 4841369599423283200 == some .gt || FloatKind.f64.format.order (double.word false r) 4841369599423283200 == some .eq) = true := by
    rw [ordc false r 4841369599423283200 (by omega) (by decide), sv_f, if_neg (by omega)]
    split <;> rfl
  have hw : R.natAbs * U = V r := by
    rw [← eR, Int.natAbs_natCast, rnd_whole (whole_from r h52)]
    exact Nat.div_mul_cancel (Nat.dvd_of_mod_eq_zero (whole_from r h52))
  have hR1 : 0 < R := by
    rcases (show R = 0 ∨ 0 < R by omega) with h | h
    · rw [h, Int.natAbs_zero, Nat.zero_mul] at hw
      have := V_pos (r := r) (by omega)
      omega
    · exact h
  have hf : floatOfInt .f64 R = double.word false r := by
    obtain ⟨q, f1, f2⟩ := int_isN R
    rw [← U_def, hw] at f2
    obtain rfl := isN_exact f2 rfl (by omega)
    rw [f1, decide_eq_false (show ¬ R < 0 by omega)]
  have heq : (FloatKind.f64.format.order (floatOfInt .f64 R) (double.word false r) == some .eq) = true := by rw [hf, hn]; rfl
  clear hw hf hv52 eR
  go_enter Try.func8, Try.ntmps8
  go_wp2_with (first | (go_at_call 12; (with_reducible refine (round_k k _ (by omega)).mono ?_); rintro e w' ⟨rfl, rfl⟩) | (go_at_call 12; (with_reducible refine (round_v false r R 0 _ hr z1 z3).mono ?_); rintro e w' ⟨rfl, rfl⟩) | (go_at_call 12; (with_reducible refine (round_v true r (-R) 0 _ hr z2 z3).mono ?_); rintro e w' ⟨rfl, rfl⟩) | (go_at_call 16; with_reducible refine (alive_c _).mono ?_; rintro e w1 ⟨rfl, hb⟩; have HB1 := Lib.hid hb; clear hb))
  go_ret
  exact ⟨rfl, HB1.out⟩
set_option maxHeartbeats 2000000 in
theorem near_mid_t (r : Nat) (k : Int) (w : World) (h52 : 4841369599423283200 ≤ r) (hp : 0 < V r) (h62 : r < 4886405595696988160) (hk : -2147483648 ≤ k ∧ k ≤ 2147483647) :
    Calls Try.prog 8 #[.float .f64 (double.word true r), .int .i32 k] w fun e w' => e = .returned (.bool true) ∧ Below w.heap.size w w' := by
  have hr : r < 9223372036854775808 := by omega
  have hn : FloatKind.f64.format.order (double.word true r) (double.word true r) = some .eq := by
    have := ord true true r r (by omega) (by omega)
    rw [if_neg (by omega), if_pos rfl] at this
    exact this
  obtain ⟨g0, e0⟩ := sub_self true r (by omega)
  have hsub : ∀ t w, (binOp .sub t (.float .f64 (double.word true r)) (.float .f64 (double.word true r))).run Try.prog w = .ok (.float .f64 (double.word g0 0)) w := fun t w => run_float_arith w .sub t .f64 _ _ _ e0
  have hz := zero_eq g0
  have hun : ∀ w, (Op.unary .neg (.float .f64 (double.word true r))).run Try.prog w = .ok (.float .f64 (double.word false r)) w := neg_run true r hr
  have o3 := ordc true r 0 (by omega) (by decide)
  rw [V_zero] at o3
  obtain ⟨k0, k1⟩ := hk
  clear e0
  have hsm := small_rnd h62
  obtain ⟨R, eR⟩ : ∃ R : Int, (rnd (V r) : Int) = R := ⟨_, rfl⟩
  have R0 : 0 ≤ R := by omega
  have R1 : R ≤ 4611686018427387904 := by omega
  have z1 : Hid (rdV true r = (-R)) := Lib.hid (by unfold rdV; rw [if_pos h62, ← eR]; rfl)
  have z2 : Hid (rdV false r = R) := Lib.hid (by unfold rdV; rw [if_pos h62, ← eR]; rfl)
  have z3 : Hid (rdE r = 0) := Lib.hid (by unfold rdE; rw [if_pos h62])
  have hv62 := V_lt h62
  have ob : (FloatKind.f64.format.order (double.word false r) 4886405595696988160 == some .gt || FloatKind.f64.format.order (double.word false r) 4886405595696988160 == some .eq) = false := by
    rw [ordc false r 4886405595696988160 (by omega) (by decide), sv_f, if_pos (by omega)]; rfl
  have hlt : (FloatKind.f64.format.order (double.word true r) 0 == some .lt) = true := by
    rw [o3, sv_t, if_pos (by omega)]; rfl
  clear o3 hv62 hsm
  have hv52 := V_le h52
  have oc : (FloatKind.f64.format.order (double.word false r) 4841369599423283200 == some .gt || FloatKind.f64.format.order (double.word false r) 4841369599423283200 == some .eq) = true := by
    rw [ordc false r 4841369599423283200 (by omega) (by decide), sv_f, if_neg (by omega)]
    split <;> rfl
  have hw : R.natAbs * U = V r := by
    rw [← eR, Int.natAbs_natCast, rnd_whole (whole_from r h52)]
    exact Nat.div_mul_cancel (Nat.dvd_of_mod_eq_zero (whole_from r h52))
  have hR1 : 0 < R := by
    rcases (show R = 0 ∨ 0 < R by omega) with h | h
    · rw [h, Int.natAbs_zero, Nat.zero_mul] at hw
      have := V_pos (r := r) (by omega)
      omega
    · exact h
  have hf : floatOfInt .f64 (-R) = double.word true r := by
    obtain ⟨q, f1, f2⟩ := int_isN (-R)
    rw [Int.natAbs_neg, ← U_def, hw] at f2
    obtain rfl := isN_exact f2 rfl (by omega)
    rw [f1, decide_eq_true (show -R < 0 by omega)]
  have heq : (FloatKind.f64.format.order (floatOfInt .f64 (-R)) (double.word true r) == some .eq) = true := by rw [hf, hn]; rfl
  clear hw hf hv52 eR
  go_enter Try.func8, Try.ntmps8
  go_wp2_with (first | (go_at_call 12; (with_reducible refine (round_k k _ (by omega)).mono ?_); rintro e w' ⟨rfl, rfl⟩) | (go_at_call 12; (with_reducible refine (round_v true r (-R) 0 _ hr z1 z3).mono ?_); rintro e w' ⟨rfl, rfl⟩) | (go_at_call 12; (with_reducible refine (round_v false r R 0 _ hr z2 z3).mono ?_); rintro e w' ⟨rfl, rfl⟩) | (go_at_call 16; with_reducible refine (alive_c _).mono ?_; rintro e w1 ⟨rfl, hb⟩; have HB1 := Lib.hid hb; clear hb))
  go_ret
  exact ⟨rfl, HB1.out⟩
set_option maxHeartbeats 2000000 in
theorem near_low_f (r : Nat) (k : Int) (w : World) (h52 : r < 4841369599423283200) (h62 : r < 4886405595696988160) (hk : -2147483648 ≤ k ∧ k ≤ 2147483647) :
    Calls Try.prog 8 #[.float .f64 (double.word false r), .int .i32 k] w fun e w' => e = .returned (.bool true) ∧ Below w.heap.size w w' := by
  have hr : r < 9223372036854775808 := by omega
  have hn : FloatKind.f64.format.order (double.word false r) (double.word false r) = some .eq := by
    have := ord false false r r (by omega) (by omega)
    rw [if_neg (by omega), if_pos rfl] at this
    exact this
  obtain ⟨g0, e0⟩ := sub_self false r (by omega)
  have hsub : ∀ t w, (binOp .sub t (.float .f64 (double.word false r)) (.float .f64 (double.word false r))).run Try.prog w = .ok (.float .f64 (double.word g0 0)) w := fun t w => run_float_arith w .sub t .f64 _ _ _ e0
  have hz := zero_eq g0
  have hun : ∀ w, (Op.unary .neg (.float .f64 (double.word false r))).run Try.prog w = .ok (.float .f64 (double.word true r)) w := neg_run false r hr
  have o3 := ordc false r 0 (by omega) (by decide)
  rw [V_zero] at o3
  obtain ⟨k0, k1⟩ := hk
  clear e0
  have hsm := small_rnd h62
  obtain ⟨R, eR⟩ : ∃ R : Int, (rnd (V r) : Int) = R := ⟨_, rfl⟩
  have R0 : 0 ≤ R := by omega
  have R1 : R ≤ 4611686018427387904 := by omega
  have z1 : Hid (rdV false r = R) := Lib.hid (by unfold rdV; rw [if_pos h62, ← eR]; rfl)
  have z2 : Hid (rdV true r = (-R)) := Lib.hid (by unfold rdV; rw [if_pos h62, ← eR]; rfl)
  have z3 : Hid (rdE r = 0) := Lib.hid (by unfold rdE; rw [if_pos h62])
  have hv62 := V_lt h62
  have ob : (FloatKind.f64.format.order (double.word false r) 4886405595696988160 == some .gt || FloatKind.f64.format.order (double.word false r) 4886405595696988160 == some .eq) = false := by
    rw [ordc false r 4886405595696988160 (by omega) (by decide), sv_f, if_pos (by omega)]; rfl
  have hlt : (FloatKind.f64.format.order (double.word false r) 0 == some .lt) = false := by
    rw [o3, sv_f, if_neg (by omega)]
    split <;> rfl
  clear o3 hv62 hsm
  have hv52 := V_lt h52
  have oc : (FloatKind.f64.format.order (double.word false r) 4841369599423283200 == some .gt || FloatKind.f64.format.order (double.word false r) 4841369599423283200 == some .eq) = false := by
    rw [ordc false r 4841369599423283200 (by omega) (by decide), sv_f, if_pos (by omega)]; rfl
  obtain ⟨p, n1, n2, n3, n4⟩ := near r h52
  have hRn : R ≤ 4503599627370496 := by
    rw [← eR]
    have := rnd_le (v := V r) (k := 4503599627370496) (by rw [← V_R52]; exact hv52)
    omega
  obtain ⟨qn, f1, f2, f3⟩ := int_exact R (by omega)
  have f4 := sv_int R qn f2
  obtain ⟨g, q, g1, g2, g3⟩ := sub_word false (decide (R < 0)) r qn (by omega) f3
  rw [f4] at g2 g3
  have hD : sv false r - R * (U : Int) = (V r : Int) - R * (U : Int) := by
    rw [sv_f]
  rw [hD] at g2 g3
  rw [eR] at n1
  have hpq : q = p := isN_exact g2 (by rw [n1]) (by omega)
  subst hpq
  have hsub2 : ∀ t w, (binOp .sub t (.float .f64 (double.word false r)) (.float .f64 (floatOfInt .f64 R))).run Try.prog w = .ok (.float .f64 (double.word g q)) w := fun t w => run_float_arith w .sub t .f64 _ _ _ (by rw [f1]; exact g1)
  have hh := V_half
  have hU := U_pos
  have oA : FloatKind.f64.format.order (double.word g q) 13826050856027422720 = _ := ord g true q 4602678819172646912 (by omega) (by decide)
  have oB := ordc g q 4602678819172646912 (by omega) (by decide)
  rw [sv_t] at oA
  have hsv : sv g q = (V q : Int) ∨ sv g q = -(V q : Int) := by cases g <;> simp [sv]
  have lA : (FloatKind.f64.format.order (double.word g q) 13826050856027422720 == some .gt || FloatKind.f64.format.order (double.word g q) 13826050856027422720 == some .eq) = true := by
    rw [oA, if_neg (by omega)]; split <;> rfl
  have lB : (FloatKind.f64.format.order (double.word g q) 4602678819172646912 == some .lt || FloatKind.f64.format.order (double.word g q) 4602678819172646912 == some .eq) = true := by
    rw [oB]
    rcases (show sv g q < (V 4602678819172646912 : Int) ∨ sv g q = (V 4602678819172646912 : Int) by omega) with h | h
    · rw [if_pos h]; rfl
    · rw [if_neg (by omega), if_pos h]; rfl
  have hev : 2 * V q = U → (R).tmod 2 = 0 := fun h => by
    have := n4 h
    have h5 : R % 2 = 0 := by rw [← eR]; omega
    rw [Int.tmod_eq_emod_of_nonneg R0]; exact h5
  by_cases hc : 2 * V q < U
  · have lC : (FloatKind.f64.format.order (double.word g q) 13826050856027422720 == some .gt) = true := by
      rw [oA, if_neg (by omega), if_neg (by omega)]; rfl
    have lD : (FloatKind.f64.format.order (double.word g q) 4602678819172646912 == some .lt) = true := by
      rw [oB, if_pos (by omega)]; rfl
    clear oA oB hsv hU hev hc n1 n2 n3 n4 f1 f2 f3 f4 g1 g2 g3 hD hh hv52 eR
    go_enter Try.func8, Try.ntmps8
    go_wp2_with (first | (go_at_call 12; (with_reducible refine (round_k k _ (by omega)).mono ?_); rintro e w' ⟨rfl, rfl⟩) | (go_at_call 12; (with_reducible refine (round_v false r R 0 _ hr z1 z3).mono ?_); rintro e w' ⟨rfl, rfl⟩) | (go_at_call 12; (with_reducible refine (round_v true r (-R) 0 _ hr z2 z3).mono ?_); rintro e w' ⟨rfl, rfl⟩) | (go_at_call 16; with_reducible refine (alive_c _).mono ?_; rintro e w1 ⟨rfl, hb⟩; have HB1 := Lib.hid hb; clear hb))
    go_ret
    exact ⟨rfl, HB1.out⟩
  · have hq := hev (by omega)
    have hq2 : ((R).tmod 2 == 0) = true := by rw [hq]; rfl
    rcases hsv with h | h
    · have lC : FloatKind.f64.format.order (double.word g q) 13826050856027422720 = some .gt := by
        rw [oA, if_neg (by omega), if_neg (by omega)]
      have lD : FloatKind.f64.format.order (double.word g q) 4602678819172646912 = some .eq := by
        rw [oB, if_neg (by omega), if_pos (by omega)]
      clear lA lB
      clear oA oB h hU hev hc n1 n2 n3 n4 f1 f2 f3 f4 g1 g2 g3 hD hh hv52 eR
      go_enter Try.func8, Try.ntmps8
      go_wp2_with (first | (go_at_call 12; (with_reducible refine (round_k k _ (by omega)).mono ?_); rintro e w' ⟨rfl, rfl⟩) | (go_at_call 12; (with_reducible refine (round_v false r R 0 _ hr z1 z3).mono ?_); rintro e w' ⟨rfl, rfl⟩) | (go_at_call 12; (with_reducible refine (round_v true r (-R) 0 _ hr z2 z3).mono ?_); rintro e w' ⟨rfl, rfl⟩) | (go_at_call 16; with_reducible refine (alive_c _).mono ?_; rintro e w1 ⟨rfl, hb⟩; have HB1 := Lib.hid hb; clear hb))
      go_ret
      exact ⟨rfl, HB1.out⟩
    · have lC : FloatKind.f64.format.order (double.word g q) 13826050856027422720 = some .eq := by
        rw [oA, if_neg (by omega), if_pos (by omega)]
      have lD : FloatKind.f64.format.order (double.word g q) 4602678819172646912 = some .lt := by
        rw [oB, if_pos (by omega)]
      clear lA lB
      clear oA oB h hU hev hc n1 n2 n3 n4 f1 f2 f3 f4 g1 g2 g3 hD hh hv52 eR
      go_enter Try.func8, Try.ntmps8
      go_wp2_with (first | (go_at_call 12; (with_reducible refine (round_k k _ (by omega)).mono ?_); rintro e w' ⟨rfl, rfl⟩) | (go_at_call 12; (with_reducible refine (round_v false r R 0 _ hr z1 z3).mono ?_); rintro e w' ⟨rfl, rfl⟩) | (go_at_call 12; (with_reducible refine (round_v true r (-R) 0 _ hr z2 z3).mono ?_); rintro e w' ⟨rfl, rfl⟩) | (go_at_call 16; with_reducible refine (alive_c _).mono ?_; rintro e w1 ⟨rfl, hb⟩; have HB1 := Lib.hid hb; clear hb))
      go_ret
      exact ⟨rfl, HB1.out⟩
set_option maxHeartbeats 2000000 in
theorem near_low_t (r : Nat) (k : Int) (w : World) (h52 : r < 4841369599423283200) (hp : 0 < V r) (h62 : r < 4886405595696988160) (hk : -2147483648 ≤ k ∧ k ≤ 2147483647) :
    Calls Try.prog 8 #[.float .f64 (double.word true r), .int .i32 k] w fun e w' => e = .returned (.bool true) ∧ Below w.heap.size w w' := by
  have hr : r < 9223372036854775808 := by omega
  have hn : FloatKind.f64.format.order (double.word true r) (double.word true r) = some .eq := by
    have := ord true true r r (by omega) (by omega)
    rw [if_neg (by omega), if_pos rfl] at this
    exact this
  obtain ⟨g0, e0⟩ := sub_self true r (by omega)
  have hsub : ∀ t w, (binOp .sub t (.float .f64 (double.word true r)) (.float .f64 (double.word true r))).run Try.prog w = .ok (.float .f64 (double.word g0 0)) w := fun t w => run_float_arith w .sub t .f64 _ _ _ e0
  have hz := zero_eq g0
  have hun : ∀ w, (Op.unary .neg (.float .f64 (double.word true r))).run Try.prog w = .ok (.float .f64 (double.word false r)) w := neg_run true r hr
  have o3 := ordc true r 0 (by omega) (by decide)
  rw [V_zero] at o3
  obtain ⟨k0, k1⟩ := hk
  clear e0
  have hsm := small_rnd h62
  obtain ⟨R, eR⟩ : ∃ R : Int, (rnd (V r) : Int) = R := ⟨_, rfl⟩
  have R0 : 0 ≤ R := by omega
  have R1 : R ≤ 4611686018427387904 := by omega
  have z1 : Hid (rdV true r = (-R)) := Lib.hid (by unfold rdV; rw [if_pos h62, ← eR]; rfl)
  have z2 : Hid (rdV false r = R) := Lib.hid (by unfold rdV; rw [if_pos h62, ← eR]; rfl)
  have z3 : Hid (rdE r = 0) := Lib.hid (by unfold rdE; rw [if_pos h62])
  have hv62 := V_lt h62
  have ob : (FloatKind.f64.format.order (double.word false r) 4886405595696988160 == some .gt || FloatKind.f64.format.order (double.word false r) 4886405595696988160 == some .eq) = false := by
    rw [ordc false r 4886405595696988160 (by omega) (by decide), sv_f, if_pos (by omega)]; rfl
  have hlt : (FloatKind.f64.format.order (double.word true r) 0 == some .lt) = true := by
    rw [o3, sv_t, if_pos (by omega)]; rfl
  clear o3 hv62 hsm
  have hv52 := V_lt h52
  have oc : (FloatKind.f64.format.order (double.word false r) 4841369599423283200 == some .gt || FloatKind.f64.format.order (double.word false r) 4841369599423283200 == some .eq) = false := by
    rw [ordc false r 4841369599423283200 (by omega) (by decide), sv_f, if_pos (by omega)]; rfl
  obtain ⟨p, n1, n2, n3, n4⟩ := near r h52
  have hRn : R ≤ 4503599627370496 := by
    rw [← eR]
    have := rnd_le (v := V r) (k := 4503599627370496) (by rw [← V_R52]; exact hv52)
    omega
  obtain ⟨qn, f1, f2, f3⟩ := int_exact (-R) (by omega)
  have f4 := sv_int (-R) qn f2
  obtain ⟨g, q, g1, g2, g3⟩ := sub_word true (decide ((-R) < 0)) r qn (by omega) f3
  rw [f4] at g2 g3
  have hD : sv true r - (-R) * (U : Int) = -((V r : Int) - R * (U : Int)) := by
    rw [sv_t, Int.neg_mul]; omega
  rw [hD] at g2 g3
  rw [eR] at n1
  have hpq : q = p := isN_exact g2 (by rw [n1]; rw [Int.natAbs_neg]) (by omega)
  subst hpq
  have hsub2 : ∀ t w, (binOp .sub t (.float .f64 (double.word true r)) (.float .f64 (floatOfInt .f64 (-R)))).run Try.prog w = .ok (.float .f64 (double.word g q)) w := fun t w => run_float_arith w .sub t .f64 _ _ _ (by rw [f1]; exact g1)
  have hh := V_half
  have hU := U_pos
  have oA : FloatKind.f64.format.order (double.word g q) 13826050856027422720 = _ := ord g true q 4602678819172646912 (by omega) (by decide)
  have oB := ordc g q 4602678819172646912 (by omega) (by decide)
  rw [sv_t] at oA
  have hsv : sv g q = (V q : Int) ∨ sv g q = -(V q : Int) := by cases g <;> simp [sv]
  have lA : (FloatKind.f64.format.order (double.word g q) 13826050856027422720 == some .gt || FloatKind.f64.format.order (double.word g q) 13826050856027422720 == some .eq) = true := by
    rw [oA, if_neg (by omega)]; split <;> rfl
  have lB : (FloatKind.f64.format.order (double.word g q) 4602678819172646912 == some .lt || FloatKind.f64.format.order (double.word g q) 4602678819172646912 == some .eq) = true := by
    rw [oB]
    rcases (show sv g q < (V 4602678819172646912 : Int) ∨ sv g q = (V 4602678819172646912 : Int) by omega) with h | h
    · rw [if_pos h]; rfl
    · rw [if_neg (by omega), if_pos h]; rfl
  have hev : 2 * V q = U → ((-R)).tmod 2 = 0 := fun h => by
    have := n4 h
    have h5 : R % 2 = 0 := by rw [← eR]; omega
    rw [Int.neg_tmod, Int.tmod_eq_emod_of_nonneg R0, h5]; rfl
  by_cases hc : 2 * V q < U
  · have lC : (FloatKind.f64.format.order (double.word g q) 13826050856027422720 == some .gt) = true := by
      rw [oA, if_neg (by omega), if_neg (by omega)]; rfl
    have lD : (FloatKind.f64.format.order (double.word g q) 4602678819172646912 == some .lt) = true := by
      rw [oB, if_pos (by omega)]; rfl
    clear oA oB hsv hU hev hc n1 n2 n3 n4 f1 f2 f3 f4 g1 g2 g3 hD hh hv52 eR
    go_enter Try.func8, Try.ntmps8
    go_wp2_with (first | (go_at_call 12; (with_reducible refine (round_k k _ (by omega)).mono ?_); rintro e w' ⟨rfl, rfl⟩) | (go_at_call 12; (with_reducible refine (round_v true r (-R) 0 _ hr z1 z3).mono ?_); rintro e w' ⟨rfl, rfl⟩) | (go_at_call 12; (with_reducible refine (round_v false r R 0 _ hr z2 z3).mono ?_); rintro e w' ⟨rfl, rfl⟩) | (go_at_call 16; with_reducible refine (alive_c _).mono ?_; rintro e w1 ⟨rfl, hb⟩; have HB1 := Lib.hid hb; clear hb))
    go_ret
    exact ⟨rfl, HB1.out⟩
  · have hq := hev (by omega)
    have hq2 : (((-R)).tmod 2 == 0) = true := by rw [hq]; rfl
    rcases hsv with h | h
    · have lC : FloatKind.f64.format.order (double.word g q) 13826050856027422720 = some .gt := by
        rw [oA, if_neg (by omega), if_neg (by omega)]
      have lD : FloatKind.f64.format.order (double.word g q) 4602678819172646912 = some .eq := by
        rw [oB, if_neg (by omega), if_pos (by omega)]
      clear lA lB
      clear oA oB h hU hev hc n1 n2 n3 n4 f1 f2 f3 f4 g1 g2 g3 hD hh hv52 eR
      go_enter Try.func8, Try.ntmps8
      go_wp2_with (first | (go_at_call 12; (with_reducible refine (round_k k _ (by omega)).mono ?_); rintro e w' ⟨rfl, rfl⟩) | (go_at_call 12; (with_reducible refine (round_v true r (-R) 0 _ hr z1 z3).mono ?_); rintro e w' ⟨rfl, rfl⟩) | (go_at_call 12; (with_reducible refine (round_v false r R 0 _ hr z2 z3).mono ?_); rintro e w' ⟨rfl, rfl⟩) | (go_at_call 16; with_reducible refine (alive_c _).mono ?_; rintro e w1 ⟨rfl, hb⟩; have HB1 := Lib.hid hb; clear hb))
      go_ret
      exact ⟨rfl, HB1.out⟩
    · have lC : FloatKind.f64.format.order (double.word g q) 13826050856027422720 = some .eq := by
        rw [oA, if_neg (by omega), if_pos (by omega)]
      have lD : FloatKind.f64.format.order (double.word g q) 4602678819172646912 = some .lt := by
        rw [oB, if_pos (by omega)]
      clear lA lB
      clear oA oB h hU hev hc n1 n2 n3 n4 f1 f2 f3 f4 g1 g2 g3 hD hh hv52 eR
      go_enter Try.func8, Try.ntmps8
      go_wp2_with (first | (go_at_call 12; (with_reducible refine (round_k k _ (by omega)).mono ?_); rintro e w' ⟨rfl, rfl⟩) | (go_at_call 12; (with_reducible refine (round_v true r (-R) 0 _ hr z1 z3).mono ?_); rintro e w' ⟨rfl, rfl⟩) | (go_at_call 12; (with_reducible refine (round_v false r R 0 _ hr z2 z3).mono ?_); rintro e w' ⟨rfl, rfl⟩) | (go_at_call 16; with_reducible refine (alive_c _).mono ?_; rintro e w1 ⟨rfl, hb⟩; have HB1 := Lib.hid hb; clear hb))
      go_ret
      exact ⟨rfl, HB1.out⟩
set_option maxHeartbeats 2000000 in
theorem near_low_z (r : Nat) (k : Int) (w : World) (h52 : r < 4841369599423283200) (hp : V r = 0) (h62 : r < 4886405595696988160) (hk : -2147483648 ≤ k ∧ k ≤ 2147483647) :
    Calls Try.prog 8 #[.float .f64 (double.word true r), .int .i32 k] w fun e w' => e = .returned (.bool true) ∧ Below w.heap.size w w' := by
  have hr : r < 9223372036854775808 := by omega
  have hn : FloatKind.f64.format.order (double.word true r) (double.word true r) = some .eq := by
    have := ord true true r r (by omega) (by omega)
    rw [if_neg (by omega), if_pos rfl] at this
    exact this
  obtain ⟨g0, e0⟩ := sub_self true r (by omega)
  have hsub : ∀ t w, (binOp .sub t (.float .f64 (double.word true r)) (.float .f64 (double.word true r))).run Try.prog w = .ok (.float .f64 (double.word g0 0)) w := fun t w => run_float_arith w .sub t .f64 _ _ _ e0
  have hz := zero_eq g0
  have hun : ∀ w, (Op.unary .neg (.float .f64 (double.word true r))).run Try.prog w = .ok (.float .f64 (double.word false r)) w := neg_run true r hr
  have o3 := ordc true r 0 (by omega) (by decide)
  rw [V_zero] at o3
  obtain ⟨k0, k1⟩ := hk
  clear e0
  have hsm := small_rnd h62
  obtain ⟨R, eR⟩ : ∃ R : Int, (rnd (V r) : Int) = R := ⟨_, rfl⟩
  have R0 : 0 ≤ R := by omega
  have R1 : R ≤ 4611686018427387904 := by omega
  have z1 : Hid (rdV true r = (-R)) := Lib.hid (by unfold rdV; rw [if_pos h62, ← eR]; rfl)
  have z2 : Hid (rdV false r = R) := Lib.hid (by unfold rdV; rw [if_pos h62, ← eR]; rfl)
  have z3 : Hid (rdE r = 0) := Lib.hid (by unfold rdE; rw [if_pos h62])
  have hv62 := V_lt h62
  have ob : (FloatKind.f64.format.order (double.word true r) 4886405595696988160 == some .gt || FloatKind.f64.format.order (double.word true r) 4886405595696988160 == some .eq) = false := by
    rw [ordc true r 4886405595696988160 (by omega) (by decide), sv_t, if_pos (by omega)]; rfl
  have hlt : (FloatKind.f64.format.order (double.word true r) 0 == some .lt) = false := by
    rw [o3, sv_t, if_neg (by omega)]
    split <;> rfl
  clear o3 hv62 hsm
  have hv52 := V_lt h52
  have oc : (FloatKind.f64.format.order (double.word true r) 4841369599423283200 == some .gt || FloatKind.f64.format.order (double.word true r) 4841369599423283200 == some .eq) = false := by
    rw [ordc true r 4841369599423283200 (by omega) (by decide), sv_t, if_pos (by omega)]; rfl
  obtain ⟨p, n1, n2, n3, n4⟩ := near r h52
  have hRn : R ≤ 4503599627370496 := by
    rw [← eR]
    have := rnd_le (v := V r) (k := 4503599627370496) (by rw [← V_R52]; exact hv52)
    omega
  obtain ⟨qn, f1, f2, f3⟩ := int_exact (-R) (by omega)
  have f4 := sv_int (-R) qn f2
  obtain ⟨g, q, g1, g2, g3⟩ := sub_word true (decide ((-R) < 0)) r qn (by omega) f3
  rw [f4] at g2 g3
  have hD : sv true r - (-R) * (U : Int) = -((V r : Int) - R * (U : Int)) := by
    rw [sv_t, Int.neg_mul]; omega
  rw [hD] at g2 g3
  rw [eR] at n1
  have hpq : q = p := isN_exact g2 (by rw [n1]; rw [Int.natAbs_neg]) (by omega)
  subst hpq
  have hsub2 : ∀ t w, (binOp .sub t (.float .f64 (double.word true r)) (.float .f64 (floatOfInt .f64 (-R)))).run Try.prog w = .ok (.float .f64 (double.word g q)) w := fun t w => run_float_arith w .sub t .f64 _ _ _ (by rw [f1]; exact g1)
  have hh := V_half
  have hU := U_pos
  have oA : FloatKind.f64.format.order (double.word g q) 13826050856027422720 = _ := ord g true q 4602678819172646912 (by omega) (by decide)
  have oB := ordc g q 4602678819172646912 (by omega) (by decide)
  rw [sv_t] at oA
  have hsv : sv g q = (V q : Int) ∨ sv g q = -(V q : Int) := by cases g <;> simp [sv]
  have lA : (FloatKind.f64.format.order (double.word g q) 13826050856027422720 == some .gt || FloatKind.f64.format.order (double.word g q) 13826050856027422720 == some .eq) = true := by
    rw [oA, if_neg (by omega)]; split <;> rfl
  have lB : (FloatKind.f64.format.order (double.word g q) 4602678819172646912 == some .lt || FloatKind.f64.format.order (double.word g q) 4602678819172646912 == some .eq) = true := by
    rw [oB]
    rcases (show sv g q < (V 4602678819172646912 : Int) ∨ sv g q = (V 4602678819172646912 : Int) by omega) with h | h
    · rw [if_pos h]; rfl
    · rw [if_neg (by omega), if_pos h]; rfl
  have hev : 2 * V q = U → ((-R)).tmod 2 = 0 := fun h => by
    have := n4 h
    have h5 : R % 2 = 0 := by rw [← eR]; omega
    rw [Int.neg_tmod, Int.tmod_eq_emod_of_nonneg R0, h5]; rfl
  by_cases hc : 2 * V q < U
  · have lC : (FloatKind.f64.format.order (double.word g q) 13826050856027422720 == some .gt) = true := by
      rw [oA, if_neg (by omega), if_neg (by omega)]; rfl
    have lD : (FloatKind.f64.format.order (double.word g q) 4602678819172646912 == some .lt) = true := by
      rw [oB, if_pos (by omega)]; rfl
    clear oA oB hsv hU hev hc n1 n2 n3 n4 f1 f2 f3 f4 g1 g2 g3 hD hh hv52 eR
    go_enter Try.func8, Try.ntmps8
    go_wp2_with (first | (go_at_call 12; (with_reducible refine (round_k k _ (by omega)).mono ?_); rintro e w' ⟨rfl, rfl⟩) | (go_at_call 12; (with_reducible refine (round_v true r (-R) 0 _ hr z1 z3).mono ?_); rintro e w' ⟨rfl, rfl⟩) | (go_at_call 12; (with_reducible refine (round_v false r R 0 _ hr z2 z3).mono ?_); rintro e w' ⟨rfl, rfl⟩) | (go_at_call 16; with_reducible refine (alive_c _).mono ?_; rintro e w1 ⟨rfl, hb⟩; have HB1 := Lib.hid hb; clear hb))
    go_ret
    exact ⟨rfl, HB1.out⟩
  · have hq := hev (by omega)
    have hq2 : (((-R)).tmod 2 == 0) = true := by rw [hq]; rfl
    rcases hsv with h | h
    · have lC : FloatKind.f64.format.order (double.word g q) 13826050856027422720 = some .gt := by
        rw [oA, if_neg (by omega), if_neg (by omega)]
      have lD : FloatKind.f64.format.order (double.word g q) 4602678819172646912 = some .eq := by
        rw [oB, if_neg (by omega), if_pos (by omega)]
      clear lA lB
      clear oA oB h hU hev hc n1 n2 n3 n4 f1 f2 f3 f4 g1 g2 g3 hD hh hv52 eR
      go_enter Try.func8, Try.ntmps8
      go_wp2_with (first | (go_at_call 12; (with_reducible refine (round_k k _ (by omega)).mono ?_); rintro e w' ⟨rfl, rfl⟩) | (go_at_call 12; (with_reducible refine (round_v true r (-R) 0 _ hr z1 z3).mono ?_); rintro e w' ⟨rfl, rfl⟩) | (go_at_call 12; (with_reducible refine (round_v false r R 0 _ hr z2 z3).mono ?_); rintro e w' ⟨rfl, rfl⟩) | (go_at_call 16; with_reducible refine (alive_c _).mono ?_; rintro e w1 ⟨rfl, hb⟩; have HB1 := Lib.hid hb; clear hb))
      go_ret
      exact ⟨rfl, HB1.out⟩
    · have lC : FloatKind.f64.format.order (double.word g q) 13826050856027422720 = some .eq := by
        rw [oA, if_neg (by omega), if_pos (by omega)]
      have lD : FloatKind.f64.format.order (double.word g q) 4602678819172646912 = some .lt := by
        rw [oB, if_pos (by omega)]
      clear lA lB
      clear oA oB h hU hev hc n1 n2 n3 n4 f1 f2 f3 f4 g1 g2 g3 hD hh hv52 eR
      go_enter Try.func8, Try.ntmps8
      go_wp2_with (first | (go_at_call 12; (with_reducible refine (round_k k _ (by omega)).mono ?_); rintro e w' ⟨rfl, rfl⟩) | (go_at_call 12; (with_reducible refine (round_v true r (-R) 0 _ hr z1 z3).mono ?_); rintro e w' ⟨rfl, rfl⟩) | (go_at_call 12; (with_reducible refine (round_v false r R 0 _ hr z2 z3).mono ?_); rintro e w' ⟨rfl, rfl⟩) | (go_at_call 16; with_reducible refine (alive_c _).mono ?_; rintro e w1 ⟨rfl, hb⟩; have HB1 := Lib.hid hb; clear hb))
      go_ret
      exact ⟨rfl, HB1.out⟩
theorem wf32 {k : Int} (h : (Lit.int .i32 k).wf = true) : -2147483648 ≤ k ∧ k ≤ 2147483647 := by
  simp only [Lit.wf, IntKind.min, IntKind.max, IntKind.signed, IntKind.bits, Bool.and_eq_true, decide_eq_true_eq, if_true] at h
  omega
/-- The law. -/
theorem nears (x : Nat) (k : Int) (w : World) (hx : (Lit.float .f64 x).wf = true) (hk : (Lit.int .i32 k).wf = true) : Calls Try.prog 8 #[.float .f64 x, .int .i32 k] w fun e w' => e = .returned (.bool true) ∧ Below w.heap.size w w' := by
  obtain ⟨s, r, rfl, hr⟩ := word_of x (wf_lt hx)
  have hk := wf32 hk
  by_cases h1 : 9218868437227405312 < r
  · exact near_nan s r k w hr h1 hk
  by_cases h2 : 9218868437227405312 ≤ r
  · obtain rfl : r = 9218868437227405312 := by omega
    exact near_inf s k w hk
  by_cases h3 : 4886405595696988160 ≤ r
  · cases s
    · exact near_big_f r k w h3 (by omega) hk
    · exact near_big_t r k w h3 (by omega) hk
  by_cases h4 : 4841369599423283200 ≤ r
  · cases s
    · exact near_mid_f r k w h4 (by omega) hk
    · exact near_mid_t r k w h4 (V_pos (by omega)) (by omega) hk
  cases s
  · exact near_low_f r k w (by omega) (by omega) hk
  rcases Nat.eq_zero_or_pos (V r) with h5 | h5
  · exact near_low_z r k w (by omega) h5 (by omega) hk
  · exact near_low_t r k w (by omega) h5 (by omega) hk
end Go.Proofs.Ytfehdajjnbehdaa.Near
