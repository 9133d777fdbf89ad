/- Products of words; fractions that are the same. -/
import Derived.Test.YtbplgjocammnbaaGreatWords
namespace Go.Proofs.YtbplgjocammnbaaGreat.Fl
open Ieee
set_option linter.unusedVariables false
theorem IsN.same {n1 d1 n2 d2 r : Nat} (h1 : 0 < d1) (h2 : 0 < d2) (h : n1 * d2 = n2 * d1) (a : IsN n1 d1 r) : IsN n2 d2 r := by
  have s : ∀ X, (d1 * X ≤ 2 * n1 → d2 * X ≤ 2 * n2) ∧ (2 * n1 ≤ d1 * X → 2 * n2 ≤ d2 * X) ∧ (d2 * X = 2 * n2 → d1 * X = 2 * n1) := by
    intro X
    have e1 : d1 * (d2 * X) = d2 * (d1 * X) := by ac_rfl
    have e2 : d1 * (2 * n2) = d2 * (2 * n1) := by
      have a1 : d1 * (2 * n2) = 2 * (n2 * d1) := by ac_rfl
      have a2 : d2 * (2 * n1) = 2 * (n1 * d2) := by ac_rfl
      rw [a1, a2, h]
    refine ⟨fun k => ?_, fun k => ?_, fun k => ?_⟩
    · refine Nat.le_of_mul_le_mul_left ?_ h1
      rw [e1, e2]; exact Nat.mul_le_mul_left _ k
    · refine Nat.le_of_mul_le_mul_left ?_ h1
      rw [e1, e2]; exact Nat.mul_le_mul_left _ k
    · refine Nat.eq_of_mul_eq_mul_left h2 ?_
      rw [← e1, ← e2, k]
  refine ⟨a.le, fun t ht => ?_, fun hr => ?_⟩
  · obtain ⟨l1, l2⟩ := a.lo t ht
    exact ⟨(s _).1 l1, fun k => l2 ((s _).2.2 k)⟩
  · obtain ⟨u1, u2⟩ := a.hi hr
    exact ⟨(s _).2.1 u1, fun k => u2 ((s _).2.2 k.symm).symm⟩
theorem mul_word (s t : Bool) (r q : Nat) (hr : r < 9218868437227405312) (hq : q < 9218868437227405312) :
    ∃ p, double.mul (double.word s r) (double.word t q) = some (double.word (s ^^ t) p) ∧ IsN (V r * V q) U p := by
  obtain ⟨m, L, e1, v1⟩ := read_num s r hr
  obtain ⟨n, K, e2, v2⟩ := read_num t q hq
  unfold Format.mul
  rw [e1, e2]
  obtain ⟨p, w1, w2⟩ := nearest_isN (s ^^ t) (m * n) ((-1074 + (L : Int)) + (-1074 + (K : Int)))
  refine ⟨p, congrArg some w1, ?_⟩
  refine IsN.same (Nat.two_pow_pos _) U_pos ?_ w2
  rw [← v1, ← v2]
  rcases Nat.lt_or_ge (L + K) 1074 with h | h
  · rw [show ((-1074 + (L : Int)) + (-1074 + (K : Int)) + 1074).toNat = 0 by omega, show (-((-1074 + (L : Int)) + (-1074 + (K : Int)) + 1074)).toNat = 1074 - (L + K) by omega, U_split (a := 1074 - (L + K)) (b := L + K) (by omega), Nat.pow_add 2 L K, Nat.pow_zero]
    generalize 2 ^ (1074 - (L + K)) = a
    generalize 2 ^ L = b
    generalize 2 ^ K = c
    rw [Nat.mul_one]
    ac_rfl
  · have e := pow_U (L + K - 1074)
    rw [Nat.sub_add_cancel h, Nat.pow_add] at e
    rw [show ((-1074 + (L : Int)) + (-1074 + (K : Int)) + 1074).toNat = L + K - 1074 by omega, show (-((-1074 + (L : Int)) + (-1074 + (K : Int)) + 1074)).toNat = 0 by omega, Nat.pow_zero, Nat.mul_one]
    generalize 2 ^ (L + K - 1074) = a at *
    generalize 2 ^ L = b at *
    generalize 2 ^ K = c at *
    generalize U = u at *
    have a1 : m * n * a * u = m * n * (a * u) := by ac_rfl
    have a2 : m * b * (n * c) = m * n * (b * c) := by ac_rfl
    rw [a1, a2, e]
end Go.Proofs.YtbplgjocammnbaaGreat.Fl
