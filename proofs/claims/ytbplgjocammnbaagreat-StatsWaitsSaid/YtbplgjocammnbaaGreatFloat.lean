/- Plain facts on IEEE doubles (words, rungs, rounding to nearest, ties to even): monotone, exact where the number is a float. No program in sight. -/
import Ieee.Arith
namespace Go.Proofs.YtbplgjocammnbaaGreat.Fl
open Ieee
set_option linter.unusedVariables false

/-- What rung r stands for, in units of 2^-1074. -/
def V (r : Nat) : Nat := if r < 4503599627370496 then r else (4503599627370496 + r % 4503599627370496) * 2 ^ (r / 4503599627370496 - 1)

theorem V_val (L k : Nat) (h : L = 0 ∨ 4503599627370496 ≤ k) (hk : k ≤ 9007199254740992) : V (L * 4503599627370496 + k) = k * 2 ^ L := by
  unfold V
  rcases Nat.lt_or_ge k 4503599627370496 with h1 | h1
  · obtain rfl : L = 0 := by omega
    rw [if_pos (by omega)]; simp
  · rw [if_neg (by omega)]
    rcases Nat.lt_or_ge k 9007199254740992 with h2 | h2
    · have e1 : (L * 4503599627370496 + k) % 4503599627370496 = k - 4503599627370496 := by omega
      have e2 : (L * 4503599627370496 + k) / 4503599627370496 - 1 = L := by omega
      rw [e1, e2, show 4503599627370496 + (k - 4503599627370496) = k by omega]
    · have hk2 : k = 9007199254740992 := by omega
      have e1 : (L * 4503599627370496 + k) % 4503599627370496 = 0 := by omega
      have e2 : (L * 4503599627370496 + k) / 4503599627370496 - 1 = L + 1 := by omega
      rw [e1, e2, Nat.pow_succ, hk2]; omega

/-- Every rung is one of these. -/
theorem split (r : Nat) : ∃ L k, r = L * 4503599627370496 + k ∧ (L = 0 ∨ 4503599627370496 ≤ k) ∧ k < 9007199254740992 ∧ (L = 0 ∨ L + 1 = r / 4503599627370496) := by
  rcases Nat.lt_or_ge r 9007199254740992 with h | h
  · exact ⟨0, r, by omega, .inl rfl, h, .inl rfl⟩
  · exact ⟨r / 4503599627370496 - 1, r % 4503599627370496 + 4503599627370496, by omega, .inr (by omega), by omega, .inr (by omega)⟩

theorem V_succ (r : Nat) : V r < V (r + 1) := by
  obtain ⟨L, k, rfl, h, hk, _⟩ := split r
  rw [Nat.add_assoc, V_val L k h (by omega), V_val L (k + 1) (by omega) (by omega), Nat.add_mul]
  have := Nat.two_pow_pos L
  omega

theorem V_lt {r s : Nat} (h : r < s) : V r < V s := by
  induction h with
  | refl => exact V_succ r
  | step _ ih => exact Nat.lt_trans ih (V_succ _)
theorem V_le {r s : Nat} (h : r ≤ s) : V r ≤ V s := by
  rcases Nat.lt_or_ge r s with h1 | h1
  · exact Nat.le_of_lt (V_lt h1)
  · obtain rfl : r = s := by omega
    exact Nat.le_refl _
theorem V_lt_iff {r s : Nat} : V r < V s ↔ r < s := ⟨fun h => by
  rcases Nat.lt_or_ge r s with h1 | h1
  · exact h1
  · have := V_le h1; omega, V_lt⟩
theorem V_inj {r s : Nat} (h : V r = V s) : r = s := by
  rcases Nat.lt_trichotomy r s with h1 | h1 | h1
  · have := V_lt h1; omega
  · exact h1
  · have := V_lt h1; omega
theorem V_zero : V 0 = 0 := rfl

/-- r is the rung nearest to num / den (in units of 2^-1074), ties to even, too great ones to infinity's. -/
structure IsN (num den r : Nat) : Prop where
  le : r ≤ 9218868437227405312
  lo : ∀ s, s + 1 = r → den * (V s + V r) ≤ 2 * num ∧ (den * (V s + V r) = 2 * num → r % 2 = 0)
  hi : r < 9218868437227405312 → 2 * num ≤ den * (V r + V (r + 1)) ∧ (2 * num = den * (V r + V (r + 1)) → r % 2 = 0)

theorem IsN.mono {n1 d1 r1 n2 d2 r2 : Nat} (hd1 : 0 < d1) (hd2 : 0 < d2) (h : n1 * d2 ≤ n2 * d1) (a : IsN n1 d1 r1) (b : IsN n2 d2 r2) : r1 ≤ r2 := by
  refine Nat.le_of_not_lt fun hlt => ?_
  obtain ⟨s, rfl⟩ : ∃ s, r1 = s + 1 := ⟨r1 - 1, by omega⟩
  obtain ⟨l1, l2⟩ := a.lo s rfl
  obtain ⟨u1, u2⟩ := b.hi (by have := a.le; omega)
  have m1 : V r2 ≤ V s := V_le (by omega)
  have m2 : V (r2 + 1) ≤ V (s + 1) := V_le (by omega)
  have A : d2 * (d1 * (V s + V (s + 1))) ≤ d2 * (2 * n1) := Nat.mul_le_mul_left _ l1
  have B : d1 * (2 * n2) ≤ d1 * (d2 * (V r2 + V (r2 + 1))) := Nat.mul_le_mul_left _ u1
  have hX : 0 < d1 * d2 := Nat.mul_pos hd1 hd2
  have C : d1 * d2 * (V r2 + V (r2 + 1)) ≤ d1 * d2 * (V s + V (s + 1)) := Nat.mul_le_mul_left _ (by omega)
  have A' : d1 * d2 * (V s + V (s + 1)) ≤ 2 * (n1 * d2) := by
    have e : d1 * d2 * (V s + V (s + 1)) = d2 * (d1 * (V s + V (s + 1))) := by rw [Nat.mul_comm d1 d2, Nat.mul_assoc]
    have e' : d2 * (2 * n1) = 2 * (n1 * d2) := by rw [Nat.mul_comm, Nat.mul_assoc]
    omega
  have B' : 2 * (n2 * d1) ≤ d1 * d2 * (V r2 + V (r2 + 1)) := by
    have e : d1 * (2 * n2) = 2 * (n2 * d1) := by rw [Nat.mul_comm, Nat.mul_assoc]
    have e' : d1 * (d2 * (V r2 + V (r2 + 1))) = d1 * d2 * (V r2 + V (r2 + 1)) := by rw [Nat.mul_assoc]
    omega
  have e1 : d1 * d2 * (V r2 + V (r2 + 1)) = d1 * d2 * (V s + V (s + 1)) := by omega
  have e2 : V r2 + V (r2 + 1) = V s + V (s + 1) := Nat.eq_of_mul_eq_mul_left hX e1
  have e3 : r2 = s := V_inj (by omega)
  subst e3
  have t1 : d1 * (V r2 + V (r2 + 1)) = 2 * n1 := by
    have : d2 * (d1 * (V r2 + V (r2 + 1))) = d2 * (2 * n1) := by
      have e : d1 * d2 * (V r2 + V (r2 + 1)) = d2 * (d1 * (V r2 + V (r2 + 1))) := by rw [Nat.mul_comm d1 d2, Nat.mul_assoc]
      have e' : d2 * (2 * n1) = 2 * (n1 * d2) := by rw [Nat.mul_comm, Nat.mul_assoc]
      omega
    exact Nat.eq_of_mul_eq_mul_left hd2 this
  have t2 : 2 * n2 = d2 * (V r2 + V (r2 + 1)) := by
    have : d1 * (2 * n2) = d1 * (d2 * (V r2 + V (r2 + 1))) := by
      have e : d1 * (2 * n2) = 2 * (n2 * d1) := by rw [Nat.mul_comm, Nat.mul_assoc]
      have e' : d1 * (d2 * (V r2 + V (r2 + 1))) = d1 * d2 * (V r2 + V (r2 + 1)) := by rw [Nat.mul_assoc]
      omega
    exact Nat.eq_of_mul_eq_mul_left hd1 this
  have := l2 t1
  have := u2 t2
  omega

theorem IsN.exact {den r : Nat} (hd : 0 < den) (hr : r ≤ 9218868437227405312) : IsN (V r * den) den r where
  le := hr
  lo s hs := by
    have h := V_lt (show s < r by omega)
    have e : 2 * (V r * den) = den * (V r + V r) := by rw [Nat.mul_comm (V r), Nat.mul_add]; omega
    have : den * (V s + V r) < den * (V r + V r) := Nat.mul_lt_mul_of_pos_left (by omega) hd
    exact ⟨by omega, fun _ => by omega⟩
  hi _ := by
    have h := V_succ r
    have e : 2 * (V r * den) = den * (V r + V r) := by rw [Nat.mul_comm (V r), Nat.mul_add]; omega
    have : den * (V r + V r) < den * (V r + V (r + 1)) := Nat.mul_lt_mul_of_pos_left (by omega) hd
    exact ⟨by omega, fun _ => by omega⟩

theorem IsN.eq {n1 d1 r1 n2 d2 r2 : Nat} (hd1 : 0 < d1) (hd2 : 0 < d2) (h : n1 * d2 = n2 * d1) (a : IsN n1 d1 r1) (b : IsN n2 d2 r2) : r1 = r2 :=
  Nat.le_antisymm (a.mono hd1 hd2 (by omega) b) (b.mono hd2 hd1 (by omega) a)

/-! ### rounding to a whole number -/
theorem cut_rne (neg : Bool) (n drop : Nat) :
    2 * (Toward.even.cut neg n drop * 2 ^ drop) ≤ 2 * n + 2 ^ drop ∧ 2 * n ≤ 2 * (Toward.even.cut neg n drop * 2 ^ drop) + 2 ^ drop ∧
    (2 * (Toward.even.cut neg n drop * 2 ^ drop) = 2 * n + 2 ^ drop → Toward.even.cut neg n drop % 2 = 0) ∧ (2 * n = 2 * (Toward.even.cut neg n drop * 2 ^ drop) + 2 ^ drop → Toward.even.cut neg n drop % 2 = 0) := by
  have hg := Nat.two_pow_pos drop
  rcases Nat.lt_or_ge (n.log2 + 2) drop with hd | hd
  · have h0 : Toward.even.cut neg n drop = 0 := by
      unfold Toward.cut
      rw [Nat.min_eq_right (by omega), Nat.one_shiftLeft]
      have h1 : n < 2 ^ (n.log2 + 1) := Nat.lt_log2_self
      have h2 : 2 ^ (n.log2 + 2) = 2 * 2 ^ (n.log2 + 1) := by rw [Nat.pow_succ 2 (n.log2 + 1), Nat.mul_comm]
      have e1 : n / 2 ^ (n.log2 + 2) = 0 := Nat.div_eq_of_lt (by omega)
      have e2 : n % 2 ^ (n.log2 + 2) = n := Nat.mod_eq_of_lt (by omega)
      simp only [e1, e2]
      have : ¬ 2 ^ (n.log2 + 2) < 2 * n := by omega
      simp [this]
    rw [h0]
    have h1 : n < 2 ^ (n.log2 + 1) := Nat.lt_log2_self
    have h2 : 2 ^ (n.log2 + 2) ≤ 2 ^ drop := Nat.pow_le_pow_right (by omega) (by omega)
    have h3 : 2 ^ (n.log2 + 2) = 2 * 2 ^ (n.log2 + 1) := by rw [Nat.pow_succ 2 (n.log2 + 1), Nat.mul_comm]
    refine ⟨by omega, by omega, fun _ => rfl, fun _ => rfl⟩
  · generalize hk : Toward.even.cut neg n drop = k
    unfold Toward.cut at hk
    rw [Nat.min_eq_left hd, Nat.one_shiftLeft] at hk
    generalize 2 ^ drop = g at *
    have hn := Nat.div_add_mod n g
    have hr := Nat.mod_lt n hg
    obtain ⟨q, hq⟩ : ∃ q, q = n / g := ⟨_, rfl⟩
    obtain ⟨r, hr2⟩ : ∃ r, r = n % g := ⟨_, rfl⟩
    simp only [← hq, ← hr2] at hk hn hr
    clear hq hr2
    have e1 : (q + 1) * g = g * q + g := by rw [Nat.add_mul, Nat.mul_comm]; omega
    have e0 : q * g = g * q := Nat.mul_comm _ _
    have hb1 : ∀ b : Bool, (decide (g < 2 * r) || g == 2 * r && q % 2 == 1) = b → q + b.toNat = k := fun b h => by rw [← h]; exact hk
    by_cases c1 : g < 2 * r
    · have e2 := hb1 true (by rw [decide_eq_true c1]; rfl)
      simp only [Bool.toNat_true] at e2
      subst e2
      rw [e1]
      exact ⟨by omega, by omega, fun _ => by omega, fun _ => by omega⟩
    · by_cases c2 : g = 2 * r ∧ q % 2 = 1
      · have e2 := hb1 true (by rw [decide_eq_false c1, (beq_iff_eq).2 c2.1, (beq_iff_eq).2 c2.2]; rfl)
        simp only [Bool.toNat_true] at e2
        subst e2
        rw [e1]
        exact ⟨by omega, by omega, fun _ => by omega, fun _ => by omega⟩
      · have e2 := hb1 false (by
          rw [decide_eq_false c1, Bool.false_or, Bool.and_eq_false_iff]
          by_cases c3 : g = 2 * r
          · exact .inr (beq_eq_false_iff_ne.2 fun h => c2 ⟨c3, h⟩)
          · exact .inl (beq_eq_false_iff_ne.2 c3))
        simp only [Bool.toNat_false, Nat.add_zero] at e2
        subst e2
        rw [e0]
        exact ⟨by omega, by omega, fun _ => by omega, fun _ => by omega⟩

theorem isN_min {num den r : Nat} (hd : 0 < den)
    (lo : ∀ s, s + 1 = r → den * (V s + V r) ≤ 2 * num ∧ (den * (V s + V r) = 2 * num → r % 2 = 0))
    (hi : 2 * num ≤ den * (V r + V (r + 1)) ∧ (2 * num = den * (V r + V (r + 1)) → r % 2 = 0)) : IsN num den (min r 9218868437227405312) := by
  rcases Nat.lt_or_ge 9218868437227405312 r with h | h
  · rw [Nat.min_eq_right (by omega)]
    refine ⟨Nat.le_refl _, fun s hs => ?_, fun h' => absurd h' (Nat.lt_irrefl _)⟩
    obtain ⟨l, _⟩ := lo (r - 1) (by omega)
    have h1 : V s ≤ V (r - 1) := V_le (by omega)
    have h2 : V 9218868437227405312 ≤ V r := V_le (by omega)
    have : den * (V s + V 9218868437227405312) ≤ den * (V (r - 1) + V r) := Nat.mul_le_mul_left _ (by omega)
    exact ⟨by omega, fun _ => by decide⟩
  · rw [Nat.min_eq_left h]
    exact ⟨h, lo, fun _ => hi⟩

theorem leastPlace_eq : double.leastPlace = -1074 := by decide
theorem binade_eq : double.binade = 4503599627370496 := by decide
theorem infRung_eq : double.infRung = 9218868437227405312 := by decide
theorem signWeight_eq : double.signWeight = 9223372036854775808 := by decide

/-- The core: mag * 2^a / 2^drop is what is rounded, to units of 2^L. -/
theorem nearest_core (L n g k num den : Nat) (hg : 0 < g) (hd : 0 < den) (hnum : num * g = n * 2 ^ L * den)
    (h1 : 2 * (k * g) ≤ 2 * n + g) (h2 : 2 * n ≤ 2 * (k * g) + g) (h3 : 2 * (k * g) = 2 * n + g → k % 2 = 0) (h4 : 2 * n = 2 * (k * g) + g → k % 2 = 0)
    (hlo : L = 0 ∨ 4503599627370496 * g ≤ n) (hup : n < 9007199254740992 * g) : IsN num den (min (L * 4503599627370496 + k) 9218868437227405312) := by
  have hL := Nat.two_pow_pos L
  have hk1 : k ≤ 9007199254740992 := by
    refine Nat.le_of_not_lt fun hh => ?_
    have : 9007199254740993 * g ≤ k * g := Nat.mul_le_mul_right _ (by omega)
    omega
  have hk2 : L = 0 ∨ 4503599627370496 ≤ k := by
    rcases hlo with h | h
    · exact .inl h
    · right
      refine Nat.le_of_not_lt fun hh => ?_
      have : k * g ≤ 4503599627370495 * g := Nat.mul_le_mul_right _ (by omega)
      omega
  have hV := V_val L k hk2 hk1
  -- comparison of den * X with 2 * num, over g
  have cmp : ∀ X, (g * X ≤ 2 * (n * 2 ^ L) → den * X ≤ 2 * num) ∧ (2 * (n * 2 ^ L) ≤ g * X → 2 * num ≤ den * X) ∧ (den * X = 2 * num → g * X = 2 * (n * 2 ^ L)) := by
    intro X
    have e1 : g * (den * X) = den * (g * X) := by rw [← Nat.mul_assoc, Nat.mul_comm g, Nat.mul_assoc]
    have e2 : g * (2 * num) = den * (2 * (n * 2 ^ L)) := by
      rw [Nat.mul_comm g, Nat.mul_assoc, hnum, Nat.mul_comm den]
      exact (Nat.mul_assoc 2 (n * 2 ^ L) den).symm
    refine ⟨fun h => ?_, fun h => ?_, fun h => ?_⟩
    · refine Nat.le_of_mul_le_mul_left ?_ hg
      rw [e1, e2]; exact Nat.mul_le_mul_left _ h
    · refine Nat.le_of_mul_le_mul_left ?_ hg
      rw [e1, e2]; exact Nat.mul_le_mul_left _ h
    · refine Nat.eq_of_mul_eq_mul_left hd ?_
      rw [← e1, ← e2, h]
  have up1 : ∀ a b : Nat, a ≤ b → a * 2 ^ L ≤ b * 2 ^ L := fun a b h => Nat.mul_le_mul_right _ h
  have inj1 : ∀ a b : Nat, a * 2 ^ L = b * 2 ^ L → a = b := fun a b h => Nat.eq_of_mul_eq_mul_right hL h
  refine isN_min hd (fun s hs => ?_) ?_
  · have hr : (L * 4503599627370496 + k) % 2 = k % 2 := by omega
    rw [hV, hr]
    by_cases hb : 0 < L ∧ k = 4503599627370496
    · -- the lowest of its binade
      have hn : 4503599627370496 * g ≤ n := by omega
      have hs' : V s < k * 2 ^ L := by rw [← hV]; exact V_lt (by omega)
      have h5 := up1 _ _ hn
      have hlt : g * (V s + k * 2 ^ L) < 2 * (n * 2 ^ L) := by
        have e : g * (k * 2 ^ L + k * 2 ^ L) = 2 * (4503599627370496 * g * 2 ^ L) := by
          rw [hb.2, Nat.mul_add, ← Nat.mul_assoc, Nat.mul_comm g 4503599627370496]; omega
        have : g * (V s + k * 2 ^ L) < g * (k * 2 ^ L + k * 2 ^ L) := Nat.mul_lt_mul_of_pos_left (by omega) hg
        omega
      exact ⟨(cmp _).1 (by omega), fun h => by have := (cmp _).2.2 h; omega⟩
    · have hs1 : s = L * 4503599627370496 + (k - 1) := by omega
      have hs2 : V s = (k - 1) * 2 ^ L := by rw [hs1]; exact V_val L (k - 1) (by omega) (by omega)
      have e : g * ((k - 1) * 2 ^ L + k * 2 ^ L) = (2 * (k * g) - g) * 2 ^ L := by
        rw [← Nat.add_mul, ← Nat.mul_assoc]
        congr 1
        obtain ⟨j, rfl⟩ : ∃ j, k = j + 1 := ⟨k - 1, by omega⟩
        rw [Nat.add_sub_cancel, Nat.mul_comm (j + 1) g, Nat.mul_add, Nat.mul_add, Nat.mul_one]; omega
      have hkg : g ≤ k * g := Nat.le_mul_of_pos_left _ (by omega)
      rw [hs2]
      refine ⟨(cmp _).1 ?_, fun h => ?_⟩
      · rw [e, show 2 * (n * 2 ^ L) = 2 * n * 2 ^ L from (Nat.mul_assoc 2 n _).symm]; exact up1 _ _ (by omega)
      · have h5 := (cmp _).2.2 h
        rw [e, show 2 * (n * 2 ^ L) = 2 * n * 2 ^ L from (Nat.mul_assoc 2 n _).symm] at h5
        have := inj1 _ _ h5
        exact h3 (by omega)
  · have hr : (L * 4503599627370496 + k) % 2 = k % 2 := by omega
    rw [hV, hr]
    by_cases hb : k = 9007199254740992
    · have h5 : n * 2 ^ L < 9007199254740992 * g * 2 ^ L := Nat.mul_lt_mul_of_pos_right hup hL
      have hs' : k * 2 ^ L < V (L * 4503599627370496 + k + 1) := by rw [← hV]; exact V_succ _
      have hlt : 2 * (n * 2 ^ L) < g * (k * 2 ^ L + V (L * 4503599627370496 + k + 1)) := by
        have e : g * (k * 2 ^ L + k * 2 ^ L) = 2 * (9007199254740992 * g * 2 ^ L) := by
          rw [hb, Nat.mul_add, ← Nat.mul_assoc, Nat.mul_comm g 9007199254740992]; omega
        have : g * (k * 2 ^ L + k * 2 ^ L) < g * (k * 2 ^ L + V (L * 4503599627370496 + k + 1)) := Nat.mul_lt_mul_of_pos_left (by omega) hg
        omega
      exact ⟨(cmp _).2.1 (by omega), fun h => by have := (cmp _).2.2 h.symm; omega⟩
    · have hs2 : V (L * 4503599627370496 + k + 1) = (k + 1) * 2 ^ L := by rw [Nat.add_assoc]; exact V_val L (k + 1) (by omega) (by omega)
      have e : g * (k * 2 ^ L + (k + 1) * 2 ^ L) = (2 * (k * g) + g) * 2 ^ L := by
        rw [← Nat.add_mul, ← Nat.mul_assoc]
        congr 1
        rw [Nat.mul_comm k g, Nat.mul_add, Nat.mul_add, Nat.mul_one]; omega
      rw [hs2]
      refine ⟨(cmp _).2.1 ?_, fun h => ?_⟩
      · rw [e, show 2 * (n * 2 ^ L) = 2 * n * 2 ^ L from (Nat.mul_assoc 2 n _).symm]; exact up1 _ _ h2
      · have h5 := (cmp _).2.2 h.symm
        rw [e, show 2 * (n * 2 ^ L) = 2 * n * 2 ^ L from (Nat.mul_assoc 2 n _).symm] at h5
        have := inj1 _ _ h5
        exact h4 (by omega)

theorem pow_split (a b : Nat) : 2 ^ (a + b) = 2 ^ a * 2 ^ b := Nat.pow_add 2 a b

theorem nearest_isN (neg : Bool) (mag : Nat) (place : Int) :
    ∃ r, double.nearest neg mag place = double.word neg r ∧ IsN (mag * 2 ^ (place + 1074).toNat) (2 ^ (-(place + 1074)).toNat) r := by
  unfold Format.nearest
  have hd : 0 < 2 ^ (-(place + 1074)).toNat := Nat.two_pow_pos _
  by_cases h0 : mag = 0
  · subst h0
    refine ⟨0, by simp, ?_⟩
    have := IsN.exact (den := 2 ^ (-(place + 1074)).toNat) (r := 0) hd (by omega)
    simpa [V_zero] using this
  · rw [if_neg h0]
    refine ⟨_, rfl, ?_⟩
    rw [leastPlace_eq, binade_eq, infRung_eq, show double.fractionBits = 52 from rfl]
    generalize hlast : max (place + (mag.log2 : Int) - ((52 : Nat) : Int)) (-1074) = last
    generalize hL : (last - -1074).toNat = L
    generalize ha : (place - last).toNat = a
    generalize hdr : (last - place).toNat = drop
    rw [show (mag <<< a) = mag * 2 ^ a from Nat.shiftLeft_eq _ _]
    obtain ⟨c1, c2, c3, c4⟩ := cut_rne neg (mag * 2 ^ a) drop
    generalize Toward.even.cut neg (mag * 2 ^ a) drop = k at *
    have hl1 : 2 ^ mag.log2 ≤ mag := Nat.log2_self_le h0
    have hl2 : mag < 2 ^ (mag.log2 + 1) := Nat.lt_log2_self
    refine nearest_core L (mag * 2 ^ a) (2 ^ drop) k _ _ (Nat.two_pow_pos _) hd ?_ c1 c2 c3 c4 ?_ ?_
    · rw [Nat.mul_assoc, ← pow_split, Nat.mul_assoc mag, ← pow_split, Nat.mul_assoc mag, ← pow_split]
      congr 2
      omega
    · rcases Nat.eq_zero_or_pos L with h | h
      · exact .inl h
      · right
        have e : 4503599627370496 * 2 ^ drop = 2 ^ (52 + drop) := by rw [pow_split]
        rw [e]
        have e2 : 2 ^ (52 + drop) = 2 ^ mag.log2 * 2 ^ a := by rw [← pow_split]; congr 1; omega
        rw [e2]
        exact Nat.mul_le_mul_right _ hl1
    · have e : 9007199254740992 * 2 ^ drop = 2 ^ (53 + drop) := by rw [pow_split]
      rw [e]
      have e2 : 2 ^ (mag.log2 + 1) * 2 ^ a ≤ 2 ^ (53 + drop) := by rw [← pow_split]; exact Nat.pow_le_pow_right (by omega) (by omega)
      have : mag * 2 ^ a < 2 ^ (mag.log2 + 1) * 2 ^ a := Nat.mul_lt_mul_of_pos_right hl2 (Nat.two_pow_pos _)
      omega

end Go.Proofs.YtbplgjocammnbaaGreat.Fl
