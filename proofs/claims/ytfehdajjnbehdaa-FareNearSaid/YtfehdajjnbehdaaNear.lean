/- FareNear: the plain law and the walk. -/
import Derived.Test.YtfehdajjnbehdaaAliveR
namespace Go.Proofs.Ytfehdajjnbehdaa.Near
open Go.RowKit Go.Proofs.Ytfehdajjnbehdaa.Aid Go.Proofs.Ytfehdajjnbehdaa.Fl Go.Proofs.Ytfehdajjnbehdaa.Mem Go.Proofs.Ytfehdajjnbehdaa.Round Go.Proofs.Ytfehdajjnbehdaa.AliveR Go.Proofs.Ytfehdajjnbehdaa.Keep
open Ieee (double Toward Format)
set_option linter.unusedSimpArgs false
set_option linter.unusedVariables false
/-- How far a float is from its nearest whole number: not above a half, and a float again. -/
theorem near (r : Nat) (hr : r < 4841369599423283200) : ∃ q, V q = ((V r : Int) - (rnd (V r) : Int) * (U : Int)).natAbs ∧ q < 9218868437227405312 ∧ 2 * V q ≤ U ∧ (2 * V q = U → rnd (V r) % 2 = 0) := by
  obtain ⟨q0, e0, h0⟩ := rest_rep r hr
  have hm := Nat.div_add_mod (V r) U
  have hU := U_pos
  have hlt := Nat.mod_lt (V r) hU
  have hr0 : rnd (V r) = if 2 * (V r % U) < U ∨ (2 * (V r % U) = U ∧ V r / U % 2 = 0) then V r / U else V r / U + 1 := rfl
  by_cases hc : 2 * (V r % U) < U ∨ (2 * (V r % U) = U ∧ V r / U % 2 = 0)
  · rw [if_pos hc] at hr0
    have e : ((V r : Int) - (rnd (V r) : Int) * (U : Int)) = ((V r % U : Nat) : Int) := by
      rw [hr0]
      have : ((V r / U : Nat) : Int) * (U : Int) = ((U * (V r / U) : Nat) : Int) := by rw [Nat.mul_comm]; push_cast; rfl
      rw [this]; omega
    refine ⟨q0, by rw [e, Int.natAbs_natCast, e0], h0, by rw [e0]; omega, fun h => ?_⟩
    rw [e0] at h
    rw [hr0]
    omega
  · rw [if_neg hc] at hr0
    have e : ((V r : Int) - (rnd (V r) : Int) * (U : Int)) = -((U - V r % U : Nat) : Int) := by
      rw [hr0]
      have : ((V r / U + 1 : Nat) : Int) * (U : Int) = ((U * (V r / U) : Nat) : Int) + (U : Int) := by rw [Nat.mul_comm U]; push_cast; rw [Int.add_mul, Int.one_mul]
      rw [this]; omega
    obtain ⟨L, k, hr2, hk0, hk, _⟩ := split r
    have hv : V r = k * 2 ^ L := by rw [hr2]; exact V_val L k hk0 (by omega)
    have hL : L ≤ 1074 := by omega
    have eU := U_split (a := 1074 - L) (b := L) (by omega)
    have e1 : V r % U = k % 2 ^ (1074 - L) * 2 ^ L := by
      rw [hv, eU, Nat.mul_mod_mul_right]
    have hL2 : 1021 ≤ L := by
      refine Nat.not_lt.1 fun h => ?_
      obtain ⟨d, hd⟩ : ∃ d, 1074 - L = d + 54 := ⟨1074 - L - 54, by omega⟩
      have h2 : k < 2 ^ (1074 - L) := by
        rw [hd, Nat.pow_add]
        have := Nat.two_pow_pos d
        have h3 : 1 * 2 ^ 54 ≤ 2 ^ d * 2 ^ 54 := Nat.mul_le_mul_right _ this
        have h4 : (2 : Nat) ^ 54 = 18014398509481984 := by decide
        omega
      rw [Nat.mod_eq_of_lt h2] at e1
      have h5 : 2 * (k * 2 ^ L) < U := by
        rw [eU, hd, Nat.pow_add]
        have := Nat.two_pow_pos d
        have h4 : (2 : Nat) ^ 54 = 18014398509481984 := by decide
        have h6 : 2 * k < 2 ^ d * 2 ^ 54 := by
          have h3 : 1 * 2 ^ 54 ≤ 2 ^ d * 2 ^ 54 := Nat.mul_le_mul_right _ this
          omega
        have := Nat.mul_lt_mul_of_pos_right h6 (Nat.two_pow_pos L)
        rw [Nat.mul_assoc] at this
        exact this
      omega
    obtain ⟨q, e2, h2⟩ := rep L (2 ^ (1074 - L) - k % 2 ^ (1074 - L)) (by
      have h3 : (2 : Nat) ^ (1074 - L) ≤ 2 ^ 53 := Nat.pow_le_pow_right (by decide) (by omega)
      have h4 : (2 : Nat) ^ 53 = 9007199254740992 := by decide
      omega)
    have e3 : V q = U - V r % U := by
      rw [e2, Nat.sub_mul, ← eU, ← e1]
    refine ⟨q, by rw [e, Int.natAbs_neg, Int.natAbs_natCast, e3], by omega, by rw [e3]; omega, fun h => ?_⟩
    rw [e3] at h
    rw [hr0]
    omega
/-- A whole number's float. -/
theorem int_exact (n : Int) (hn : n.natAbs ≤ 9007199254740992) : ∃ q, floatOfInt .f64 n = double.word (decide (n < 0)) q ∧ V q = n.natAbs * U ∧ q < 9218868437227405312 := by
  obtain ⟨qn, f1, f2⟩ := int_isN n
  rw [← U_def] at f2
  obtain ⟨p, f3, f4⟩ := rep_whole n.natAbs hn
  obtain rfl := isN_exact (q0 := p) f2 f3 (by omega)
  exact ⟨_, f1, f3, f4⟩
theorem sv_int (n : Int) (q : Nat) (h : V q = n.natAbs * U) : sv (decide (n < 0)) q = n * (U : Int) := by
  by_cases hn : n < 0
  · rw [decide_eq_true hn, sv_t, h]
    obtain ⟨m, rfl⟩ : ∃ m : Nat, n = -(m : Int) := ⟨n.natAbs, by omega⟩
    rw [Int.natAbs_neg, Int.natAbs_natCast, Int.neg_mul]; push_cast; rfl
  · rw [decide_eq_false hn, sv_f, h]
    obtain ⟨m, rfl⟩ : ∃ m : Nat, n = (m : Int) := ⟨n.natAbs, by omega⟩
    rw [Int.natAbs_natCast]; push_cast; rfl
theorem round_k (k : Int) (w : World) (hk : k.natAbs ≤ 9007199254740992) : Calls Try.prog 12 #[.float .f64 (floatOfInt .f64 k)] w fun e w' => e = .returned (.tuple #[.int .i64 k, .int .i64 0]) ∧ w = w' := by
  obtain ⟨q, e1, e2, e3⟩ := int_exact k hk
  have hq : q < 4886405595696988160 := by
    refine Nat.not_le.1 fun h => ?_
    have := V_le h
    rw [V_R62, e2] at this
    have := Nat.le_of_mul_le_mul_right this U_pos
    omega
  have h := round_c (decide (k < 0)) q w (by omega)
  have ev : rdV (decide (k < 0)) q = k := by
    unfold rdV
    rw [if_pos hq, e2, rnd_whole (Nat.mul_mod_left _ _), Nat.mul_div_cancel _ U_pos]
    by_cases hn : k < 0
    · rw [decide_eq_true hn, if_pos rfl]; omega
    · rw [decide_eq_false hn, if_neg (by decide)]; omega
  have ee : rdE q = 0 := by unfold rdE; rw [if_pos hq]
  rw [ev, ee, ← e1] at h
  exact h
theorem round_v (s : Bool) (r : Nat) (n e : Int) (w : World) (hr : r < 9223372036854775808) (hn : Hid (rdV s r = n)) (he : Hid (rdE r = e)) : Calls Try.prog 12 #[.float .f64 (double.word s r)] w fun x w' => x = .returned (.tuple #[.int .i64 n, .int .i64 e]) ∧ w = w' := by
  have h := round_c s r w hr
  rw [hn.out, he.out] at h
  exact h
theorem neg_run (s : Bool) (r : Nat) (hr : r < 9223372036854775808) : ∀ w, (Op.unary .neg (.float .f64 (double.word s r))).run Try.prog w = .ok (.float .f64 (double.word (!s) r)) w := fun w => by
  show Result.ok (Value.float .f64 (Op.negFloat .f64 (double.word s r))) w = _
  rw [neg_word s r hr]
end Go.Proofs.Ytfehdajjnbehdaa.Near
