/- Plain laws of prices: monotone, from one to three times the base. -/
import Derived.Test.YtfehdajjnbehdaaPrice
namespace Go.Proofs.Ytfehdajjnbehdaa.Dear
open Go.RowKit Go.Proofs.Ytfehdajjnbehdaa.Fl Go.Proofs.Ytfehdajjnbehdaa.Round Go.Proofs.Ytfehdajjnbehdaa.Price Go.Proofs.Ytfehdajjnbehdaa.Types
open Ieee (double Toward Format)
set_option linter.unusedVariables false
theorem div_add (v : Nat) : v / U * U + v % U = v := by rw [Nat.mul_comm]; exact Nat.div_add_mod v U
theorem rnd_mono {a b : Nat} (h : a ≤ b) : rnd a ≤ rnd b := by
  have hu := U_pos
  have e1 := div_add a
  have e2 := div_add b
  have m1 := Nat.mod_lt a hu
  have m2 := Nat.mod_lt b hu
  rcases Nat.lt_trichotomy (a / U) (b / U) with hq | hq | hq
  · have : rnd a ≤ a / U + 1 := by unfold rnd; split <;> omega
    have : b / U ≤ rnd b := by unfold rnd; split <;> omega
    omega
  · unfold rnd
    rw [hq] at e1 ⊢
    generalize a % U = x at *
    generalize b % U = y at *
    generalize b / U * U = z at *
    split <;> split <;> omega
  · have := Nat.div_le_div_right (c := U) h
    omega
theorem V_one : V 4607182418800017408 = U := by rw [show V 4607182418800017408 = 2 ^ 1074 by decide +kernel, U_def]
theorem V_three : V 4613937818241073152 = 3 * U := by rw [show V 4613937818241073152 = 3 * 2 ^ 1074 by decide +kernel, U_def]
/-- A whole number from 0 on as a float. -/
theorem whole_word {n : Int} (h0 : 0 ≤ n) (h1 : n ≤ 9007199254740992) : ∃ q, floatOfInt .f64 n = double.word false q ∧ V q = n.toNat * U ∧ q < 9218868437227405312 := by
  obtain ⟨q, e1, e2⟩ := int_isN n
  rw [decide_eq_false (by omega)] at e1
  obtain ⟨q0, v, hq⟩ := rep_whole n.toNat (by omega)
  rw [show n.natAbs = n.toNat by omega, ← U_def] at e2
  have := isN_exact e2 v (by omega)
  subst this
  exact ⟨q, e1, v, hq⟩
/-- What Price tells of a good request: the number, that it is no error; it stands between. -/
theorem pr_good {r : Req} {k : Nat} {v e : Int} (hr : Rq r) (hg : Price.Good r false k) (h : Pr r false k v e) :
    e = 0 ∧ ∃ p q, v = (rnd (V p) : Int) ∧ V q = (baseN r).toNat * U ∧ q < 9218868437227405312 ∧ IsN (V q * V k) U p ∧ (baseN r) ≤ v ∧ v ≤ 3 * baseN r ∧ (k = 4607182418800017408 → v = baseN r) := by
  rcases h with ⟨h, _⟩ | ⟨_, p, hm, hp, rfl, rfl⟩
  · exact absurd hg h
  · obtain ⟨b1, b2⟩ := base_bound hr hg.1
    obtain ⟨hs, _, k1, k2⟩ := hg
    obtain ⟨q, e1, vq, hq⟩ := whole_word (n := baseN r) (by omega) (by omega)
    obtain ⟨p', e2, e3⟩ := mul_word false false q k hq (by omega)
    rw [e1, e2] at hm
    have hpp : p' = p := by
      have := Option.some.inj hm
      rw [show (false ^^ false) = false from rfl, word_f, word_f] at this
      exact this
    subst hpp
    have v1 : U ≤ V k := by rw [← V_one]; exact V_le k1
    have v3 : V k ≤ 3 * U := by rw [← V_three]; exact V_le k2
    have hu := U_pos
    have lo : q ≤ p' := (IsN.exact (r := q) U_pos (by omega)).mono U_pos U_pos (Nat.mul_le_mul_right _ (Nat.mul_le_mul_left _ v1)) e3
    obtain ⟨q3, v3q, hq3⟩ := rep_whole (3 * (baseN r).toNat) (by omega)
    have hi : p' ≤ q3 := e3.mono U_pos U_pos (by
      refine Nat.mul_le_mul_right _ ?_
      rw [vq, v3q]
      have := Nat.mul_le_mul_left ((baseN r).toNat * U) v3
      refine Nat.le_trans this (Nat.le_of_eq ?_)
      generalize U = u
      generalize (baseN r).toNat = n
      simp only [Nat.mul_assoc, Nat.mul_left_comm, Nat.mul_comm]) (IsN.exact (r := q3) U_pos (by omega))
    have hlt : p' < 4886405595696988160 := by
      refine V_lt_iff.1 (Nat.lt_of_le_of_lt (V_le hi) ?_)
      rw [v3q, V_R62]
      exact Nat.mul_lt_mul_of_pos_right (by omega) U_pos
    have r1 : rnd (V q) = (baseN r).toNat := by rw [vq, rnd_whole (Nat.mul_mod_left _ _), div_mul_self]
    have r3 : rnd (V q3) = 3 * (baseN r).toNat := by rw [v3q, rnd_whole (Nat.mul_mod_left _ _), div_mul_self]
    have c1 := rnd_mono (V_le lo)
    have c3 := rnd_mono (V_le hi)
    have e0 : rdV false p' = (rnd (V p') : Int) := by unfold rdV; rw [if_pos hlt]; rfl
    refine ⟨by unfold rdE; rw [if_pos hlt], p', q, e0, vq, hq, e3, by omega, by omega, fun hk => ?_⟩
    subst hk
    have : p' = q := IsN.eq U_pos U_pos (by rw [V_one]) e3 (IsN.exact (r := q) U_pos (by omega))
    subst this
    omega
theorem pr_mono {a b : Req} {k l : Nat} {v e u f : Int} (ha : Rq a) (hb : Rq b) (ga : Price.Good a false k) (gb : Price.Good b false l) (h1 : Pr a false k v e) (h2 : Pr b false l u f) (hk : k ≤ l) (hs : baseN a ≤ baseN b) : v ≤ u := by
  obtain ⟨_, p, q, rfl, vq, _, i1, _⟩ := pr_good ha ga h1
  obtain ⟨_, p', q', rfl, vq', _, i2, _⟩ := pr_good hb gb h2
  have : p ≤ p' := i1.mono U_pos U_pos (Nat.mul_le_mul_right _ (Nat.mul_le_mul (by rw [vq, vq']; exact Nat.mul_le_mul_right _ (by omega)) (V_le hk))) i2
  have := rnd_mono (V_le this)
  omega
theorem pr_bad {r : Req} {s : Bool} {k : Nat} {v e : Int} (hg : ¬ Price.Good r s k) (h : Pr r s k v e) : v = 0 ∧ e = 1 := by
  rcases h with ⟨_, h⟩ | ⟨h, _⟩
  · exact h
  · exact absurd h hg
end Go.Proofs.Ytfehdajjnbehdaa.Dear
