/- Plain law of WindowDoubles: numbers that are doubled have a mean that is doubled. -/
import Derived.Test.YthcjkdmlaahpbaaMovesP
namespace Go.Proofs.Ythcjkdmlaahpbaa.Moves
open Go.Proofs.Ythcjkdmlaahpbaa.Fl Go.Proofs.Ythcjkdmlaahpbaa.Smooth Go.Proofs.Ythcjkdmlaahpbaa.Added
open Ieee (double Toward Format)
set_option linter.unusedVariables false
/-- The rung of twice as much. -/
def up (r : Nat) : Nat := if r < 4503599627370496 then 2 * r else r + 4503599627370496
theorem V_up (r : Nat) : V (up r) = 2 * V r := by
  unfold up
  by_cases h : r < 4503599627370496
  · rw [if_pos h]
    have e1 := V_val 0 (2 * r) (.inl rfl) (by omega)
    have e2 := V_val 0 r (.inl rfl) (by omega)
    rw [Nat.zero_mul, Nat.zero_add, Nat.pow_zero, Nat.mul_one] at e1 e2
    rw [e1, e2]
  · rw [if_neg h]
    obtain ⟨L, k, rfl, hk, hk2, _⟩ := split r
    rcases hk with rfl | hk
    · have e1 := V_val 1 k (.inr (by omega)) (by omega)
      have e2 := V_val 0 k (.inl rfl) (by omega)
      rw [Nat.zero_mul, Nat.zero_add] at e2 ⊢
      rw [show k + 4503599627370496 = 1 * 4503599627370496 + k by omega, e1, e2]
      omega
    · have e1 := V_val (L + 1) k (.inr hk) (by omega)
      have e2 := V_val L k (.inr hk) (by omega)
      rw [show L * 4503599627370496 + k + 4503599627370496 = (L + 1) * 4503599627370496 + k by omega, e1, e2, Nat.pow_succ]
      generalize 2 ^ L = p
      rw [← Nat.mul_assoc]
      omega
theorem V_upn {r : Nat} (h : 4503599627370496 ≤ r) : V (r + 4503599627370496) = 2 * V r := by
  have := V_up r
  unfold up at this
  rwa [if_neg (by omega)] at this
/-- Far from the least numbers, twice the fraction has twice the rung. -/
theorem isn_up {n d r : Nat} (h : IsN n d r) (h1 : 4503599627370496 < r) (h2 : r + 4503599627370496 < 9218868437227405312) : IsN (2 * n) d (r + 4503599627370496) := by
  have e0 := V_upn (r := r) (by omega)
  refine ⟨by omega, fun s hs => ?_, fun _ => ?_⟩
  · obtain ⟨t, rfl⟩ : ∃ t, s = t + 4503599627370496 := ⟨s - 4503599627370496, by omega⟩
    have e1 := V_upn (r := t) (by omega)
    obtain ⟨l1, l2⟩ := h.lo t (by omega)
    have e : d * (V (t + 4503599627370496) + V (r + 4503599627370496)) = 2 * (d * (V t + V r)) := by rw [e0, e1, ← Nat.mul_add, Nat.mul_left_comm]
    rw [e]
    exact ⟨by omega, fun hh => by have := l2 (by omega); omega⟩
  · have e1 := V_upn (r := r + 1) (by omega)
    obtain ⟨u1, u2⟩ := h.hi (by omega)
    have e : d * (V (r + 4503599627370496) + V (r + 4503599627370496 + 1)) = 2 * (d * (V r + V (r + 1))) := by rw [e0, show r + 4503599627370496 + 1 = r + 1 + 4503599627370496 by omega, e1, ← Nat.mul_add, Nat.mul_left_comm]
    rw [e]
    exact ⟨by omega, fun hh => by have := u2 (by omega); omega⟩
/-- A sum (whose unit is one): twice as much is twice as much, always. -/
theorem isn_two {n r r' : Nat} (h : IsN n 1 r) (h' : IsN (2 * n) 1 r') (h2 : r + 4503599627370496 < 9218868437227405312) : V r' = 2 * V r := by
  by_cases hs : n < 9007199254740992
  · have e := V_val 0 n (.inl rfl) (by omega)
    rw [Nat.zero_mul, Nat.zero_add, Nat.pow_zero, Nat.mul_one] at e
    have er := isN_exact h e (by omega)
    have hu := V_up n
    rw [e] at hu
    have er' := isN_exact h' hu (by unfold up; split <;> omega)
    rw [er, er', e, hu]
  · have h3 : 9007199254740992 ≤ r := by
      refine (IsN.exact (den := 1) (r := 9007199254740992) Nat.one_pos (by omega)).mono Nat.one_pos Nat.one_pos ?_ h
      rw [show V 9007199254740992 = 9007199254740992 by decide +kernel]
      omega
    have := isn_up h (by omega) h2
    rw [IsN.eq Nat.one_pos Nat.one_pos rfl h' this, V_upn (by omega)]
theorem sv_of (g : Bool) (r : Nat) (n : Int) {d : Nat} (h : SN n d g r) (hd : 0 < d) : sv g r = if n < 0 then -(V r : Int) else (V r : Int) := by
  by_cases hn : n = 0
  · subst hn
    rw [isn_zero hd h.1, sv_zero, V_zero]
    simp
  · rw [h.2 hn]
    by_cases h1 : n < 0
    · rw [decide_eq_true h1, sv_t, if_pos h1]
    · rw [decide_eq_false h1, sv_f, if_neg h1]
theorem sn_two {n : Int} {g g' : Bool} {r r' : Nat} (h : SN n 1 g r) (h' : SN (2 * n) 1 g' r') (h2 : r + 4503599627370496 < 9218868437227405312) : sv g' r' = 2 * sv g r := by
  have e : V r' = 2 * V r := isn_two h.1 (by have := h'.1; rwa [Int.natAbs_mul] at this) h2
  rw [sv_of g r n h Nat.one_pos, sv_of g' r' (2 * n) h' Nat.one_pos, e]
  split <;> split <;> omega
theorem sn_up {n : Int} {d : Nat} {g g' : Bool} {r r' : Nat} (hd : 0 < d) (h : SN n d g r) (h' : SN (2 * n) d g' r') (h1 : n = 0 ∨ 4503599627370496 < r) (h2 : r + 4503599627370496 < 9218868437227405312) : sv g' r' = 2 * sv g r := by
  rcases h1 with rfl | h1
  · have e1 := isn_zero hd h.1
    have e2 := isn_zero hd h'.1
    rw [e1, e2, sv_zero, sv_zero]
    rfl
  · have e : V r' = 2 * V r := by
      have h3 : IsN (2 * n.natAbs) d r' := by have := h'.1; rwa [Int.natAbs_mul] at this
      rw [IsN.eq hd hd rfl h3 (isn_up h.1 h1 h2), V_upn (by omega)]
    rw [sv_of g r n h hd, sv_of g' r' (2 * n) h' hd, e]
    split <;> split <;> omega
end Go.Proofs.Ythcjkdmlaahpbaa.Moves
