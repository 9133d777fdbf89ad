/- How words of doubles read: a rung below infinity's is a number; what whole numbers are as doubles; their quotient is a number or infinity. -/
import Derived.Test.YtbplgjocammnbaaGreatFloat
import Derived.Laws.FloatArith
namespace Go.Proofs.YtbplgjocammnbaaGreat.Fl
open Ieee

theorem read_word (neg : Bool) (r : Nat) (hr : r < 9223372036854775808) :
    double.read (double.word neg r) = if r < 4503599627370496 then .number neg r (-1074) else if r < 9218868437227405312 then .number neg (4503599627370496 + r % 4503599627370496) (-1074 + (r / 4503599627370496 - 1 : Nat)) else if r = 9218868437227405312 then .infinity neg else .nan neg (r - 9218868437227405312) := by
  unfold Format.read Format.word
  rw [signWeight_eq, leastPlace_eq, binade_eq, infRung_eq]
  cases neg
  · have e1 : r / 9223372036854775808 = 0 := Nat.div_eq_of_lt hr
    have e2 : r % 9223372036854775808 = r := Nat.mod_eq_of_lt hr
    simp only [Bool.false_eq_true, if_false, e1, e2]
    rfl
  · have e1 : (9223372036854775808 + r) / 9223372036854775808 = 1 := by omega
    have e2 : (9223372036854775808 + r) % 9223372036854775808 = r := by omega
    simp only [if_true, e1, e2]
    rfl

/-- A rung below infinity's is a number of V's units. -/
theorem read_num (neg : Bool) (r : Nat) (hr : r < 9218868437227405312) : ∃ m L : Nat, double.read (double.word neg r) = .number neg m (-1074 + (L : Int)) ∧ m * 2 ^ L = V r := by
  rw [read_word neg r (by omega)]
  unfold V
  by_cases h : r < 4503599627370496
  · rw [if_pos h, if_pos h]
    exact ⟨r, 0, rfl, by simp⟩
  · rw [if_neg h, if_neg h, if_pos hr]
    exact ⟨_, _, rfl, rfl⟩

theorem V_pos {r : Nat} (h : 0 < r) : 0 < V r := by
  have := V_lt h
  rwa [V_zero] at this

/-- A whole number's double. -/
theorem int_isN (n : Int) : ∃ r, floatOfInt .f64 n = double.word (decide (n < 0)) r ∧ IsN (n.natAbs * 2 ^ 1074) 1 r := by
  obtain ⟨r, h1, h2⟩ := nearest_isN (decide (n < 0)) n.natAbs 0
  have e1 : ((0 : Int) + 1074).toNat = 1074 := rfl
  have e2 : (-((0 : Int) + 1074)).toNat = 0 := rfl
  rw [e1, e2, Nat.pow_zero] at h2
  exact ⟨r, h1, h2⟩

theorem unit_at : V 4886405595696988160 = 4611686018427387904 * 2 ^ 1074 := by decide +kernel
theorem int_rung' {m r U : Nat} (hU : V 4886405595696988160 = 4611686018427387904 * U) (h0 : 0 < U) (h : IsN (m * U) 1 r) (hm : m ≤ 4611686018427387904) : r ≤ 4886405595696988160 ∧ (0 < m → 0 < r) := by
  constructor
  · refine h.mono Nat.one_pos Nat.one_pos ?_ (IsN.exact (den := 1) (r := 4886405595696988160) Nat.one_pos (by decide))
    rw [hU, Nat.mul_one, Nat.mul_one, Nat.mul_one]
    exact Nat.mul_le_mul_right _ hm
  · intro h1
    refine Nat.pos_of_ne_zero fun hr => ?_
    subst hr
    obtain ⟨u, _⟩ := h.hi (by decide)
    have e : V (0 + 1) = 1 := by decide
    rw [V_zero, e] at u
    have := Nat.mul_pos h1 h0
    omega
theorem int_rung {m r : Nat} (h : IsN (m * 2 ^ 1074) 1 r) (hm : m ≤ 4611686018427387904) : r ≤ 4886405595696988160 ∧ (0 < m → 0 < r) :=
  int_rung' unit_at (Nat.two_pow_pos 1074) h hm

/-- What float64(n) reads as: a number, zero just where n is. -/
theorem int_read (n : Int) (hn : n.natAbs ≤ 4611686018427387904) : ∃ m p, double.read (floatOfInt .f64 n) = .number (decide (n < 0)) m p ∧ (n ≠ 0 → m ≠ 0) := by
  obtain ⟨r, e, h⟩ := int_isN n
  obtain ⟨h1, h2⟩ := int_rung h hn
  obtain ⟨m, L, e1, e2⟩ := read_num (decide (n < 0)) r (by omega)
  rw [e]
  refine ⟨m, _, e1, fun h0 hm => ?_⟩
  subst hm
  have := V_pos (h2 (by omega))
  omega

/-- The quotient of two whole numbers. -/
theorem quo_some (a b : Int) (ha : a.natAbs ≤ 4611686018427387904) (hb : b.natAbs ≤ 4611686018427387904) (h0 : b ≠ 0) : ∃ q, floatBits .quo .f64 (floatOfInt .f64 a) (floatOfInt .f64 b) = some q := by
  obtain ⟨m, p, e1, _⟩ := int_read a ha
  obtain ⟨n, q, e2, h2⟩ := int_read b hb
  show ∃ q, double.div _ _ = some q
  unfold Format.div
  rw [e1, e2]
  simp only [Datum.quotient, if_neg (h2 h0)]
  exact ⟨_, rfl⟩
end Go.Proofs.YtbplgjocammnbaaGreat.Fl
