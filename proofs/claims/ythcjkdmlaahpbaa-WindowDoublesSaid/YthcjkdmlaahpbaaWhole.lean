/- WindowDoubles: twice a number; whole numbers, of which the mean is the last. -/
import Derived.Test.YthcjkdmlaahpbaaFar
namespace Go.Proofs.Ythcjkdmlaahpbaa.Moves
open Go.Proofs.Ythcjkdmlaahpbaa.Fl Go.Proofs.Ythcjkdmlaahpbaa.Smooth Go.Proofs.Ythcjkdmlaahpbaa.Added Go.Proofs.Ythcjkdmlaahpbaa.Smooths Go.Proofs.Ythcjkdmlaahpbaa.Round
open Ieee (double Toward Format)
set_option linter.unusedVariables false
theorem K6 : V 4611686018427387904 = 2 * U := by decide +kernel
theorem K7 : V 4607182418800017408 = U := by decide +kernel
theorem K8 : V 4831355200913801216 = 1000000000000000 * U := by decide +kernel
theorem K9 : P2 1054 ≤ V 4517329193108106637 := by decide +kernel
/-- Twice a number. -/
theorem mul_two {g : Bool} {q : Nat} (hq : q + 4503599627370496 < 9218868437227405312) : double.mul 4611686018427387904 (double.word g q) = some (double.word g (up q)) := by
  obtain ⟨p, e1, e2⟩ := mul_word false g 4611686018427387904 q (by decide) (by omega)
  rw [word_f, Bool.false_xor] at e1
  rw [e1]
  have hu : up q ≤ 9218868437227405312 := by unfold up; split <;> omega
  have h := IsN.eq U_pos U_pos (by rw [K6, V_up]; generalize V q = v; generalize U = u; ac_rfl) e2 (IsN.exact (den := U) (r := up q) U_pos hu)
  rw [h]
theorem sv_up (g : Bool) (q : Nat) : sv g (up q) = 2 * sv g q := by
  cases g
  · rw [sv_f, sv_f, V_up]; omega
  · rw [sv_t, sv_t, V_up]; omega
theorem up_lt {q : Nat} (hq : q + 4503599627370496 < 9218868437227405312) : up q < 9218868437227405312 := by unfold up; split <;> omega
theorem word_lt (g : Bool) {q : Nat} (hq : q < 9223372036854775808) : double.word g q < 18446744073709551616 := by
  cases g
  · rw [word_f]; omega
  · rw [word_t]; omega
theorem dbl_of {x : Nat} (h : Calm x) : ∃ y, double.mul 4611686018427387904 x = some y ∧ Dbl x y ∧ y < 18446744073709551616 := by
  obtain ⟨g, q, rfl, hq, _⟩ := h
  have := up_lt (q := q) (by omega)
  exact ⟨_, mul_two (by omega), ⟨g, q, g, up q, rfl, rfl, by omega, this, sv_up g q⟩, word_lt g (by omega)⟩
theorem sn_eq {n1 n2 : Int} {d1 d2 : Nat} {g1 g2 : Bool} {r1 r2 : Nat} (h1 : SN n1 d1 g1 r1) (h2 : SN n2 d2 g2 r2) (p1 : 0 < d1) (p2 : 0 < d2) (h : n1 * d2 = n2 * d1) : sv g1 r1 = sv g2 r2 :=
  Int.le_antisymm (sn_mono h1 h2 p1 p2 (Int.le_of_eq h)) (sn_mono h2 h1 p2 p1 (Int.le_of_eq h.symm))
/-- A whole number, not great. -/
def Whole (x : Nat) : Prop := ∃ g q, x = double.word g q ∧ q < 9218868437227405312 ∧ ∃ z : Int, z.natAbs ≤ 1000000000000000 ∧ sv g q = z * U
theorem sn_whole {z : Int} {g : Bool} {r : Nat} (hz : z.natAbs ≤ 9007199254740992) (h : SN (z * U) 1 g r) : sv g r = z * U := by
  obtain ⟨q0, e, hq⟩ := rep_whole z.natAbs hz
  have e2 : sv (decide (z < 0)) q0 = z * U := by
    by_cases h0 : z < 0
    · rw [decide_eq_true h0, sv_t, e, Int.natCast_mul, show ((z.natAbs : Nat) : Int) = -z by omega, Int.neg_mul, Int.neg_neg]
    · rw [decide_eq_false h0, sv_f, e, Int.natCast_mul, show ((z.natAbs : Nat) : Int) = z by omega]
  have h2 := sn_exact (decide (z < 0)) q0 (by omega)
  rw [e2] at h2
  rw [sn_eq h h2 Nat.one_pos Nat.one_pos rfl, e2]
/-- With the share 1 the mean of whole numbers is the last one. -/
theorem Next.whole {rs : Nat} {gm : Bool} {qm : Nat} {g : Bool} {q : Nat} {gn : Bool} {qn : Nat} (h : Next rs gm qm g q gn qn) (hs : V rs = U) {z1 z2 : Int} (b1 : z1.natAbs ≤ 1000000000000000) (b2 : z2.natAbs ≤ 1000000000000000) (e1 : sv gm qm = z1 * U) (e2 : sv g q = z2 * U) : sv gn qn = sv g q := by
  obtain ⟨gd, rd, gp, rp, a, b, c⟩ := h.ex
  rw [e1, e2, ← Int.sub_mul] at a
  have h1 := sn_whole (by omega) a
  have h2 : sv gp rp = sv gd rd := by
    refine sn_eq b (sn_exact gd rd a.1.le) U_pos Nat.one_pos ?_
    rw [hs, Int.mul_comm (U : Int)]
    exact Int.mul_one _
  rw [e1, h2, h1, ← Int.add_mul, show z1 + (z2 - z1) = z2 by omega] at c
  rw [sn_whole (by omega) c, e2]
theorem whole_run {sh : Nat} {xs : List Nat} (hsx : sh < 18446744073709551616) (hs : shareB sh = true) (h1 : oE sh 4607182418800017408 = true) (hx : ∀ x ∈ xs, Whole x) : ∀ k, 0 < k → k ≤ xs.length → ∀ mn any, beF sh (xs.take k) = some (mn, any) → any = true ∧ ∃ x g q gm qm, xs[k - 1]? = some x ∧ x = double.word g q ∧ mn = double.word gm qm ∧ q < 9218868437227405312 ∧ qm < 9218868437227405312 ∧ sv gm qm = sv g q := by
  obtain ⟨rs, es, s0, s1, _⟩ := share_word sh hsx hs
  have hV : V rs = U := by
    unfold oE at h1
    rw [es, word_f, ordp rs 4607182418800017408 (by omega) (by decide)] at h1
    by_cases c1 : V rs < V 4607182418800017408
    · rw [if_pos c1] at h1; cases h1
    · rw [if_neg c1] at h1
      by_cases c2 : V rs = V 4607182418800017408
      · rw [c2, K7]
      · rw [if_neg c2] at h1; cases h1
  intro k
  induction k with
  | zero => intro h; omega
  | succ j ih =>
    intro _ hk mn any hb
    have hxj : xs[j]? = some xs[j] := List.getElem?_eq_getElem (by omega)
    rw [beF_snoc sh hxj] at hb
    obtain ⟨g, q, ex, hq, z2, b2, e2⟩ := hx _ (List.mem_of_getElem? hxj)
    cases hb2 : beF sh (xs.take j) with
    | none => rw [hb2] at hb; cases hb
    | some s =>
      obtain ⟨m0, a0⟩ := s
      rw [hb2] at hb
      replace hb : (if (outF sh m0 a0 xs[j]).2.1 = 0 then some (outF sh m0 a0 xs[j]).2.2 else none) = some (mn, any) := hb
      rcases out_cases sh m0 a0 xs[j] with ⟨_, ho⟩ | ⟨_, ho⟩ | ⟨_, _, ho⟩ | ⟨_, rfl, m, hn, hf, ho⟩ <;> rw [ho] at hb
      · cases hb
      · cases hb
      · have := Option.some.inj hb
        injection this with i1 i2
        exact ⟨i2.symm, xs[j], g, q, g, q, hxj, ex, i1.symm.trans ex, hq, hq, rfl⟩
      · have := Option.some.inj hb
        injection this with i1 i2
        by_cases hj : j = 0
        · subst hj
          have : beF sh (xs.take 0) = some (0, false) := rfl
          rw [this] at hb2
          cases hb2
        · obtain ⟨_, x', g', q', gm, qm, hx', ex', em, hq', hqm, esv⟩ := ih (by omega) (by omega) m0 true hb2
          obtain ⟨g2, q2, ex2, hq2, z1, b1, e1⟩ := hx x' (List.mem_of_getElem? hx')
          obtain ⟨rfl, rfl⟩ := word_inj (by omega) (by omega) (ex'.symm.trans ex2)
          rw [es, em, ex] at hn
          obtain ⟨gn, qn, en, N⟩ := next_fin s0 s1 hqm hq hn hf
          exact ⟨i2.symm, xs[j], g, q, gn, qn, hxj, ex, i1.symm.trans en, hq, N.lt, N.whole hV b1 b2 (esv.trans e1) e2⟩
end Go.Proofs.Ythcjkdmlaahpbaa.Moves
