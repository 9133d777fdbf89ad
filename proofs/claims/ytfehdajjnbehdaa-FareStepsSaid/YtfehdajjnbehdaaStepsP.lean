/- Plain law of FareSteps: which of the nine steps Surge tells; it does not fall when more wait or fewer are idle; what it says of small numbers. -/
import Derived.Test.YtfehdajjnbehdaaDivW
import Derived.Test.YtfehdajjnbehdaaSurge
import Derived.Test.YtfehdajjnbehdaaRound
namespace Go.Proofs.Ytfehdajjnbehdaa.Steps
open Go.RowKit Go.Proofs.Ytfehdajjnbehdaa.Fl Go.Proofs.Ytfehdajjnbehdaa.Surge Go.Proofs.Ytfehdajjnbehdaa.Round
open Ieee (double Toward Format)
set_option linter.unusedVariables false
def idx (q : Nat) : Nat → Nat
  | 0 => 0
  | k + 1 => if leB (stepB k) q = true then k else idx q k
theorem best_idx (q : Nat) : ∀ n, bestB q n = stepB (idx q n)
  | 0 => rfl
  | k + 1 => by
    unfold bestB idx
    split
    · rfl
    · exact best_idx q k
theorem stepB_le (k : Nat) : stepB k ≤ 4613937818241073152 := by
  unfold stepB
  split <;> decide
theorem leB_eq (k q : Nat) (hq : q ≤ 9218868437227405312) : leB (stepB k) q = decide (stepB k ≤ q) := by
  have hk := stepB_le k
  unfold leB
  rw [ordp (stepB k) q (by omega) hq]
  by_cases h : stepB k ≤ q
  · have := V_le h
    rw [decide_eq_true h]
    split
    · rfl
    · rw [if_pos (by omega)]; rfl
  · have : V q < V (stepB k) := V_lt (by omega)
    rw [decide_eq_false h, if_neg (by omega), if_neg (by omega)]
    rfl
theorem idx_facts (q : Nat) (hq : q ≤ 9218868437227405312) : ∀ n, n ≤ 9 → idx q n ≤ n - 1 ∧ (idx q n = 0 ∨ stepB (idx q n) ≤ q) ∧ ∀ k, k < n → stepB k ≤ q → k ≤ idx q n
  | 0, _ => ⟨Nat.le_refl _, .inl rfl, fun k h => by omega⟩
  | n + 1, hn => by
    obtain ⟨i1, i2, i3⟩ := idx_facts q hq n (by omega)
    unfold idx
    rw [leB_eq n q hq]
    by_cases h : stepB n ≤ q
    · rw [decide_eq_true h, if_pos rfl]
      exact ⟨by omega, .inr h, fun k hk _ => by omega⟩
    · rw [decide_eq_false h, if_neg (by decide)]
      refine ⟨by omega, i2, fun k hk hs => ?_⟩
      by_cases he : k = n
      · subst he; exact absurd hs h
      · exact i3 k (by omega) hs
/-- Which step Surge tells of a that wait and b that are idle. -/
def Ix (a b : Int) (i : Nat) : Prop := (a = 0 ∧ b = 0 ∧ i = 0) ∨ (0 < a ∧ b = 0 ∧ i = 8) ∨ (0 < b ∧ ∃ q, floatBits .quo .f64 (floatOfInt .f64 a) (floatOfInt .f64 b) = some q ∧ i = idx q 9)
def Nu (n : Int) : Prop := 0 ≤ n ∧ n ≤ 4611686018427387903
theorem sur_ix {a b : Int} {v : Nat} {e : Int} (ha : Nu a) (hb : Nu b) (h : Sur a b v e) : e = 0 ∧ ∃ i, Ix a b i ∧ v = stepB i := by
  rcases h with ⟨h, _⟩ | ⟨rfl, rfl, rfl, rfl⟩ | ⟨h1, h2, rfl, rfl, rfl⟩ | ⟨h1, h2, h3, h4, q, hq, rfl, rfl⟩
  · exact absurd ⟨ha.1, ha.2, hb.1, hb.2⟩ h
  · exact ⟨rfl, 0, .inl ⟨rfl, rfl, rfl⟩, rfl⟩
  · exact ⟨rfl, 8, .inr (.inl ⟨h1, rfl, rfl⟩), rfl⟩
  · exact ⟨rfl, idx q 9, .inr (.inr ⟨h3, q, hq, rfl⟩), best_idx q 9⟩
theorem sur_bad {a b : Int} {v : Nat} {e : Int} (h : ¬ (Nu a ∧ Nu b)) (s : Sur a b v e) : v = 0 ∧ e = 1 := by
  unfold Nu at h
  rcases s with ⟨_, h1, h2⟩ | ⟨rfl, rfl, _, _⟩ | ⟨h1, h2, rfl, _, _⟩ | ⟨h1, h2, h3, h4, _⟩
  · exact ⟨h1, h2⟩
  · exact absurd ⟨⟨by omega, by omega⟩, ⟨by omega, by omega⟩⟩ h
  · exact absurd ⟨⟨by omega, by omega⟩, ⟨by omega, by omega⟩⟩ h
  · exact absurd ⟨⟨by omega, by omega⟩, ⟨by omega, by omega⟩⟩ h
theorem int_word {n : Int} (h : Nu n) : ∃ r, floatOfInt .f64 n = double.word false r ∧ IsN (n.toNat * U) 1 r ∧ r ≤ 4886405595696988160 ∧ (0 < n → 0 < r) := by
  obtain ⟨h1, h2⟩ := h
  obtain ⟨r, e1, e2⟩ := int_isN n
  rw [decide_eq_false (by omega)] at e1
  obtain ⟨b1, b2⟩ := int_rung e2 (by omega)
  rw [show n.natAbs = n.toNat by omega, ← U_def] at e2
  exact ⟨r, e1, e2, b1, fun h => b2 (by omega)⟩
theorem quo_law {a b : Int} {q : Nat} (ha : Nu a) (hb : Nu b) (h0 : 0 < b) (h : floatBits .quo .f64 (floatOfInt .f64 a) (floatOfInt .f64 b) = some q) : ∃ r s, IsN (a.toNat * U) 1 r ∧ IsN (b.toNat * U) 1 s ∧ 0 < s ∧ IsN (V r * U) (V s) q := by
  obtain ⟨r, e1, i1, b1, _⟩ := int_word ha
  obtain ⟨s, e2, i2, b2, hs⟩ := int_word hb
  rw [e1, e2] at h
  have hs := hs h0
  obtain ⟨p, d1, d2⟩ := div_word false false r s (by omega) (by omega) hs
  have : some (double.word (false ^^ false) p) = some q := d1.symm.trans h
  have := Option.some.inj this
  rw [show (false ^^ false) = false from rfl, word_f] at this
  subst this
  exact ⟨r, s, i1, i2, hs, d2⟩
theorem quo_le {a b : Int} {q : Nat} (ha : Nu a) (hb : Nu b) (h0 : 0 < b) (h : floatBits .quo .f64 (floatOfInt .f64 a) (floatOfInt .f64 b) = some q) : q ≤ 9218868437227405312 := by
  obtain ⟨_, _, _, _, _, i⟩ := quo_law ha hb h0 h
  exact i.le
theorem quo_mono {a b a' b' : Int} {q q' : Nat} (ha : Nu a) (hb : Nu b) (ha' : Nu a') (hb' : Nu b') (h0 : 0 < b) (h0' : 0 < b') (h : floatBits .quo .f64 (floatOfInt .f64 a) (floatOfInt .f64 b) = some q) (h' : floatBits .quo .f64 (floatOfInt .f64 a') (floatOfInt .f64 b') = some q') (l1 : a ≤ a') (l2 : b' ≤ b) : q ≤ q' := by
  obtain ⟨r, s, i1, i2, s0, i3⟩ := quo_law ha hb h0 h
  obtain ⟨r', s', i1', i2', s0', i3'⟩ := quo_law ha' hb' h0' h'
  have m1 : r ≤ r' := i1.mono Nat.one_pos Nat.one_pos (Nat.mul_le_mul_right _ (Nat.mul_le_mul_right _ (by omega))) i1'
  have m2 : s' ≤ s := i2'.mono Nat.one_pos Nat.one_pos (Nat.mul_le_mul_right _ (Nat.mul_le_mul_right _ (by omega))) i2
  exact i3.mono (V_pos s0) (V_pos s0') (Nat.mul_le_mul (Nat.mul_le_mul_right _ (V_le m1)) (V_le m2)) i3'
theorem ix_le {a b : Int} {i : Nat} (ha : Nu a) (hb : Nu b) (h : Ix a b i) : i ≤ 8 := by
  rcases h with ⟨_, _, rfl⟩ | ⟨_, _, rfl⟩ | ⟨h0, q, hq, rfl⟩
  · omega
  · omega
  · exact (idx_facts q (quo_le ha hb h0 hq) 9 (Nat.le_refl _)).1
theorem stepB_pos (k : Nat) : 4607182418800017408 ≤ stepB k := by
  unfold stepB
  split <;> decide
theorem ix_none {b : Int} {i : Nat} (hb : Nu b) (h : Ix 0 b i) : i = 0 := by
  rcases h with ⟨_, _, rfl⟩ | ⟨h, _⟩ | ⟨h0, q, hq, rfl⟩
  · rfl
  · omega
  · have ha : Nu 0 := ⟨by omega, by omega⟩
    obtain ⟨r, s, i1, i2, s0, i3⟩ := quo_law ha hb h0 hq
    have hr : r ≤ 0 := i1.mono Nat.one_pos Nat.one_pos (by simp [V_zero]) (IsN.exact (den := 1) (r := 0) Nat.one_pos (by omega))
    have hq0 : q ≤ 0 := i3.mono (V_pos s0) Nat.one_pos (by rw [show r = 0 by omega, V_zero]; simp) (IsN.exact (den := 1) (r := 0) Nat.one_pos (by omega))
    obtain ⟨_, f2, _⟩ := idx_facts q (by omega) 9 (Nat.le_refl _)
    have := stepB_pos (idx q 9)
    omega
/-- More that wait, fewer that are idle: no lower step. -/
theorem ix_mono {a b a' b' : Int} {i j : Nat} (ha : Nu a) (hb : Nu b) (ha' : Nu a') (hb' : Nu b') (h : Ix a b i) (h' : Ix a' b' j) (l1 : a ≤ a') (l2 : b' ≤ b) : i ≤ j := by
  by_cases z : a = 0
  · subst z
    have := ix_none hb h
    omega
  · have hi := ix_le ha hb h
    obtain ⟨a1, _⟩ := ha
    rcases h' with ⟨rfl, _⟩ | ⟨_, _, rfl⟩ | ⟨h0', q', hq', rfl⟩
    · omega
    · exact hi
    · rcases h with ⟨h, _⟩ | ⟨_, rfl, _⟩ | ⟨h0, q, hq, rfl⟩
      · omega
      · have := hb'.1; omega
      · have hm := quo_mono ⟨a1, by assumption⟩ hb ha' hb' h0 h0' hq hq' l1 l2
        obtain ⟨f1, f2, _⟩ := idx_facts q (quo_le ⟨a1, by assumption⟩ hb h0 hq) 9 (Nat.le_refl _)
        obtain ⟨_, _, f3⟩ := idx_facts q' (quo_le ha' hb' h0' hq') 9 (Nat.le_refl _)
        rcases f2 with f2 | f2
        · omega
        · exact f3 _ (by omega) (by omega)
theorem step_V : ∀ k : Fin 9, 4 * V (stepB k.val) = (k.val + 4) * 2 ^ 1074 ∧ 4398046511104 * V (stepB k.val) ≤ 4398046511104 * V (stepB k.val - 1) + 2 ^ 1074 := by decide +kernel
theorem step_q {a b : Int} {q k : Nat} (hk : k < 9) (ha : 0 ≤ a) (ha' : a < 1099511627776) (hb : 0 < b) (hb' : b < 1099511627776) (h : floatBits .quo .f64 (floatOfInt .f64 a) (floatOfInt .f64 b) = some q) : stepB k ≤ q ↔ ((k : Int) + 4) * b ≤ 4 * a := by
  obtain ⟨r, s, i1, i2, s0, i3⟩ := quo_law (a := a) (b := b) ⟨ha, by omega⟩ ⟨by omega, by omega⟩ hb h
  obtain ⟨r0, v1, h1⟩ := rep_whole a.toNat (by omega)
  obtain ⟨s0', v2, h2⟩ := rep_whole b.toNat (by omega)
  have er := isN_exact i1 v1 (by omega)
  have es := isN_exact i2 v2 (by omega)
  subst er es
  rw [v1, v2] at i3
  have hu := U_pos
  have hbU : 0 < b.toNat * U := Nat.mul_pos (by omega) hu
  have i4 : IsN (a.toNat * U) b.toNat q := IsN.same hbU (by omega) (by generalize U = u; ac_rfl) i3
  obtain ⟨s1, s2⟩ := step_V ⟨k, hk⟩
  rw [← U_def] at s1 s2
  replace s1 : 4 * V (stepB k) = (k + 4) * U := s1
  replace s2 : 4398046511104 * V (stepB k) ≤ 4398046511104 * V (stepB k - 1) + U := s2
  have hp := stepB_pos k
  have hl := stepB_le k
  clear i3 hbU i1 i2 v1 v2 h
  obtain ⟨A, hA⟩ : ∃ A, A = a.toNat := ⟨_, rfl⟩
  obtain ⟨B, hB⟩ : ∃ B, B = b.toNat := ⟨_, rfl⟩
  rw [← hA, ← hB] at i4
  obtain rfl : a = (A : Int) := by omega
  obtain rfl : b = (B : Int) := by omega
  clear hA hB
  have cast : ((k : Int) + 4) * (B : Int) = (((k + 4) * B : Nat) : Int) := by rw [Int.natCast_mul, Int.natCast_add]; rfl
  rw [cast]
  have hW : 4 * (B * V (stepB k)) = (k + 4) * B * U := by rw [Nat.mul_left_comm, s1, Nat.mul_left_comm, ← Nat.mul_assoc]
  constructor
  · intro hq
    refine Decidable.byContradiction fun hn => ?_
    have hn' : 4 * A + 1 ≤ (k + 4) * B := by omega
    have c1 : (4 * A + 1) * U ≤ (k + 4) * B * U := Nat.mul_le_mul_right _ hn'
    rw [Nat.add_mul, Nat.mul_assoc, Nat.one_mul, ← hW] at c1
    have c2 : B * (4398046511104 * V (stepB k)) ≤ B * (4398046511104 * V (stepB k - 1) + U) := Nat.mul_le_mul_left _ s2
    rw [Nat.mul_add, Nat.mul_left_comm, Nat.mul_left_comm B] at c2
    have c3 : B * U ≤ 1099511627776 * U := Nat.mul_le_mul_right _ (by omega)
    have : q ≤ stepB k - 1 := i4.mono (by omega) Nat.one_pos (by
      rw [Nat.mul_one, Nat.mul_one, Nat.mul_comm (V (stepB k - 1)) B]
      generalize B * V (stepB k) = w1 at *
      generalize B * V (stepB k - 1) = w2 at *
      generalize A * U = w3 at *
      generalize B * U = w4 at *
      omega) (IsN.exact (den := 1) (r := stepB k - 1) Nat.one_pos (by omega))
    omega
  · intro hq
    have hq' : (k + 4) * B ≤ 4 * A := by omega
    refine (IsN.exact (den := 1) (r := stepB k) Nat.one_pos (by omega)).mono Nat.one_pos (by omega) ?_ i4
    have c1 : (k + 4) * B * U ≤ 4 * A * U := Nat.mul_le_mul_right _ hq'
    rw [← hW, Nat.mul_assoc 4 A] at c1
    rw [Nat.mul_one, Nat.mul_one, Nat.mul_comm]
    omega
/-- Of small numbers the step is the greatest one that is not above the quotient. -/
theorem ix_small {a b : Int} {i : Nat} (ha : 0 ≤ a) (ha' : a < 1099511627776) (hb : 0 < b) (hb' : b < 1099511627776) (h : Ix a b i) : (i = 0 ∨ ((i : Int) + 4) * b ≤ 4 * a) ∧ (i = 8 ∨ 4 * a < ((i : Int) + 5) * b) := by
  have na : Nu a := ⟨ha, by omega⟩
  have nb : Nu b := ⟨by omega, by omega⟩
  rcases h with ⟨_, h, _⟩ | ⟨_, h, _⟩ | ⟨h0, q, hq, rfl⟩
  · omega
  · omega
  · obtain ⟨f1, f2, f3⟩ := idx_facts q (quo_le na nb h0 hq) 9 (Nat.le_refl _)
    constructor
    · rcases f2 with f2 | f2
      · exact .inl f2
      · exact .inr ((step_q (by omega) ha ha' hb hb' hq).1 f2)
    · by_cases h8 : idx q 9 = 8
      · exact .inl h8
      · right
        refine Decidable.byContradiction fun hn => ?_
        have := (step_q (k := idx q 9 + 1) (by omega) ha ha' hb hb' hq).2 (by
          rw [show (((idx q 9 + 1 : Nat) : Int) + 4) = ((idx q 9 : Nat) : Int) + 5 by omega]
          omega)
        have := f3 _ (by omega) this
        omega
end Go.Proofs.Ytfehdajjnbehdaa.Steps
