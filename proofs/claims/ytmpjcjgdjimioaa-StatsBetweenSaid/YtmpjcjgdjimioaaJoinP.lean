/- Join, in plain words: each of its operations on floats has a result, but for one sum. -/
import Derived.Test.YtmpjcjgdjimioaaMayB
namespace Go.Proofs.Ytmpjcjgdjimioaa.JoinP
open Ieee Go.Proofs.Ytmpjcjgdjimioaa.Nums Go.Proofs.Ytmpjcjgdjimioaa.Of Go.Proofs.Ytmpjcjgdjimioaa.Fl Go.Proofs.Ytmpjcjgdjimioaa.Fin Go.Proofs.Ytmpjcjgdjimioaa.SOf Go.Proofs.Ytmpjcjgdjimioaa.Quant Go.Proofs.Ytmpjcjgdjimioaa.Round Go.Proofs.Ytmpjcjgdjimioaa.May
set_option linter.unusedSimpArgs false
set_option linter.unusedVariables false
def Num (x : Nat) : Prop := ∃ s r, x = double.word s r ∧ r < 9218868437227405312
def Ext (x : Nat) : Prop := ∃ s r, x = double.word s r ∧ r ≤ 9218868437227405312
/-- Not below 0, infinite maybe. -/
def NN (x : Nat) : Prop := ∃ s r, x = double.word s r ∧ r ≤ 9218868437227405312 ∧ (s = false ∨ r = 0)
/-- From 1 to a bound. -/
def Big (b x : Nat) : Prop := ∃ s r, x = double.word s r ∧ s = false ∧ 4607182418800017408 ≤ r ∧ r ≤ b
def Pos (x : Nat) : Prop := ∃ s r, x = double.word s r ∧ s = false ∧ 0 < r ∧ r < 9218868437227405312
theorem NN.ext {x : Nat} (h : NN x) : Ext x := by obtain ⟨s, r, e, h, _⟩ := h; exact ⟨s, r, e, h⟩
theorem Num.ext {x : Nat} (h : Num x) : Ext x := by obtain ⟨s, r, e, h⟩ := h; exact ⟨s, r, e, by omega⟩
theorem Ext.lt {x : Nat} (h : Ext x) : x < 18446744073709551616 := by
  obtain ⟨s, r, rfl, h⟩ := h
  cases s
  · rw [word_f]; omega
  · rw [word_t]; omega
theorem Num.of_fin {x : Nat} (hx : x < 18446744073709551616) (h : finB x = true) : Num x := by
  obtain ⟨s, r, rfl, hr⟩ := word_of x hx
  rw [finB_word s r hr, decide_eq_true_eq] at h
  exact ⟨s, r, rfl, h⟩
theorem Ext.num {x : Nat} (hx : Ext x) (h : finB x = true) : Num x := Num.of_fin hx.lt h
theorem Big.num {b x : Nat} (h : Big b x) (hb : b < 9218868437227405312) : Num x := by obtain ⟨s, r, e, _, _, h⟩ := h; exact ⟨s, r, e, by omega⟩
theorem Pos.num {x : Nat} (h : Pos x) : Num x := by obtain ⟨s, r, e, _, _, h⟩ := h; exact ⟨s, r, e, h⟩
theorem fi_big (n : Int) (h0 : 0 < n) (hn : n ≤ 4611686018427387904) : Big 4886405595696988160 (fi n) := by
  obtain ⟨r, h1, h2⟩ := int_isN n
  have hr := (int_rung h2 (by omega)).1
  rw [decide_eq_false (by omega)] at h1
  refine ⟨false, r, h1, rfl, ?_, hr⟩
  have e1 : IsN (V 4607182418800017408 * 1) 1 4607182418800017408 := IsN.exact (by decide) (by decide)
  refine IsN.mono (by decide) (by decide) ?_ e1 h2
  rw [V_one, U_eq]
  have : 1 ≤ n.natAbs := by omega
  calc U * 1 * 1 = 1 * U := by rw [Nat.mul_one, Nat.mul_one, Nat.one_mul]
    _ ≤ n.natAbs * U := Nat.mul_le_mul_right _ this
    _ = n.natAbs * U * 1 := (Nat.mul_one _).symm
theorem mul_num {x y : Nat} (hx : Num x) (hy : Num y) : (floatBits .mul .f64 x y).isSome ∧ Ext (fo .mul x y) := by
  obtain ⟨s, r, rfl, hr⟩ := hx
  obtain ⟨t, q, rfl, hq⟩ := hy
  obtain ⟨p, a, b, c⟩ := fo_mul s t r q hr hq
  exact ⟨a, _, p, b, c.le⟩
theorem zero_rank {r q p : Nat} (h : r = 0 ∨ q = 0) (c : IsN (V r * V q) U p) : p = 0 := by
  have e : V r * V q = 0 := by rcases h with rfl | rfl <;> simp [V_zero]
  rw [e] at c
  have := (IsN_top (b := 0) c U_pos (by decide) (by simp)).1
  omega
theorem mul_nn {x y : Nat} (hx : Pos x) (hy : NN y) (hf : Num y) : (floatBits .mul .f64 x y).isSome ∧ NN (fo .mul x y) := by
  obtain ⟨_, r, rfl, rfl, h0, hr⟩ := hx
  obtain ⟨t, q, rfl, hq, ht⟩ := hy
  have hq' : q < 9218868437227405312 := by
    obtain ⟨t', q', e, h⟩ := hf
    rcases Nat.lt_or_ge q 9218868437227405312 with h' | h'
    · exact h'
    · exfalso
      obtain rfl : q = 9218868437227405312 := by omega
      have hn : finB (double.word t' q') = true := by rw [finB_word t' q' (by omega)]; exact decide_eq_true h
      rw [← e, finB_word t _ (by decide)] at hn
      simp at hn
  obtain ⟨p, a, b, c⟩ := fo_mul false t r q hr hq'
  refine ⟨a, _, p, b, c.le, ?_⟩
  rcases ht with rfl | rfl
  · exact .inl rfl
  · exact .inr (zero_rank (.inr rfl) c)
theorem V_R63' : V 4890909195324358656 = 9223372036854775808 * U := by decide +kernel
theorem V_R124 : V 5165628772593958912 = 4611686018427387904 * 4611686018427387904 * U := by decide +kernel
theorem mul_big {x y : Nat} (hx : Big 4886405595696988160 x) (hy : Big 4886405595696988160 y) : (floatBits .mul .f64 x y).isSome ∧ Big 5165628772593958912 (fo .mul x y) := by
  obtain ⟨_, r, rfl, rfl, h1, h2⟩ := hx
  obtain ⟨_, q, rfl, rfl, h3, h4⟩ := hy
  obtain ⟨p, a, b, c⟩ := fo_mul false false r q (by omega) (by omega)
  refine ⟨a, _, p, b, rfl, ?_, ?_⟩
  · refine IsN.mono U_pos U_pos ?_ (IsN.exact U_pos (r := 4607182418800017408) (by decide)) c
    refine Nat.mul_le_mul_right _ ?_
    rw [V_one]
    exact Nat.mul_le_mul (by rw [← V_one]; exact V_le h1) (by rw [← V_one]; exact V_le h3)
  · refine (IsN_top c U_pos (by decide) ?_).1
    rw [V_R124]
    have e1 := V_le h2
    have e2 := V_le h4
    rw [V_R62] at e1 e2
    refine Nat.le_trans (Nat.mul_le_mul e1 e2) (Nat.le_of_eq ?_)
    rw [Nat.mul_mul_mul_comm, Nat.mul_assoc _ U U]
theorem add_big {x y : Nat} (hx : Big 4886405595696988160 x) (hy : Big 4886405595696988160 y) : (floatBits .add .f64 x y).isSome ∧ Big 4890909195324358656 (fo .add x y) := by
  obtain ⟨_, r, rfl, rfl, h1, h2⟩ := hx
  obtain ⟨_, q, rfl, rfl, h3, h4⟩ := hy
  obtain ⟨g, p, a, b, c, d⟩ := fo_add false false r q (by omega) (by omega)
  rw [sv_f, sv_f] at c d
  have p1 : 0 < V r := V_pos (by omega)
  have hz : (V r : Int) + (V q : Int) ≠ 0 := by omega
  have hg : g = false := by rw [d hz]; exact decide_eq_false (by omega)
  subst hg
  have e0 : ((V r : Int) + (V q : Int)).natAbs = V r + V q := by omega
  rw [e0] at c
  refine ⟨a, _, p, b, rfl, ?_, ?_⟩
  · refine IsN.mono (d1 := 1) (d2 := 1) (by decide) (by decide) ?_ (IsN.exact (by decide) (r := 4607182418800017408) (by decide)) c
    have := V_le h1
    omega
  · refine (IsN_top c (by decide) (by decide) ?_).1
    rw [V_R63', Nat.mul_one]
    have e1 := V_le h2
    have e2 := V_le h4
    rw [V_R62] at e1 e2
    omega
theorem U_big : 9223372036854775808 ≤ U := by
  have h := U_split (a := 63) (b := 1011) (by decide)
  have hp := Nat.two_pow_pos 1011
  generalize 2 ^ 1011 = k at h hp
  rw [h, show (2 : Nat) ^ 63 = 9223372036854775808 from by decide]
  omega
theorem div_pos {x y : Nat} (hx : Big 5165628772593958912 x) (hy : Big 4890909195324358656 y) : (floatBits .quo .f64 x y).isSome ∧ Pos (fo .quo x y) := by
  obtain ⟨_, r, rfl, rfl, h1, h2⟩ := hx
  obtain ⟨_, q, rfl, rfl, h3, h4⟩ := hy
  obtain ⟨p, a, b, c⟩ := fo_div false false r q (by omega) (by omega) (by omega)
  have hq : 0 < V q := V_pos (by omega)
  have v1 := V_le h1
  have v3 := V_le h3
  rw [V_one] at v1 v3
  refine ⟨a, _, p, b, rfl, ?_, ?_⟩
  · have hv1 : V 1 = 1 := by decide +kernel
    have := IsN.mono (r1 := 1) hq hq (Nat.mul_le_mul_right (V q) (?_ : V 1 * V q ≤ V r * U)) (IsN.exact hq (by decide)) c
    · exact this
    · rw [hv1, Nat.one_mul]
      have v4 := V_le h4
      rw [V_R63'] at v4
      exact Nat.le_trans v4 (Nat.mul_le_mul (Nat.le_trans U_big v1) (Nat.le_refl _))
  · have := (IsN_top (b := r) c hq (by omega) (Nat.mul_le_mul_left _ v3)).1
    omega
theorem sub_num {x y : Nat} (hx : Num x) (hy : Num y) : (floatBits .sub .f64 x y).isSome ∧ Ext (fo .sub x y) := by
  obtain ⟨s, r, rfl, hr⟩ := hx
  obtain ⟨t, q, rfl, hq⟩ := hy
  obtain ⟨g, p, a, b, c, _⟩ := fo_sub s t r q hr hq
  exact ⟨a, g, p, b, c.le⟩
theorem write_inf (s : Bool) : double.write (.infinity s) = double.word s 9218868437227405312 := by cases s <;> decide +kernel
theorem sq_ext {x : Nat} (hx : Ext x) : (floatBits .mul .f64 x x).isSome ∧ NN (fo .mul x x) := by
  obtain ⟨s, r, rfl, hr⟩ := hx
  rcases Nat.lt_or_ge r 9218868437227405312 with h | h
  · obtain ⟨p, a, b, c⟩ := fo_mul s s r r h h
    rw [Bool.xor_self] at b
    exact ⟨a, false, p, b, c.le, .inl rfl⟩
  · obtain rfl : r = 9218868437227405312 := by omega
    have e : floatBits .mul .f64 (double.word s 9218868437227405312) (double.word s 9218868437227405312) = some (double.word false 9218868437227405312) := by
      show ((double.read _).product (double.read _)).map double.write = _
      rw [read_inf]
      show some (double.write (.infinity (s ^^ s))) = _
      rw [Bool.xor_self, write_inf]
    have := fo_of e
    exact ⟨this.1, false, _, this.2, Nat.le_refl _, .inl rfl⟩
theorem mul_pos_nn {x y : Nat} (hx : Pos x) (hy : NN y) : (floatBits .mul .f64 x y).isSome ∧ NN (fo .mul x y) := by
  have hx0 := hx
  have hy0 := hy
  obtain ⟨_, r, rfl, rfl, h0, hr⟩ := hx
  obtain ⟨t, q, rfl, hq, ht⟩ := hy
  rcases Nat.lt_or_ge q 9218868437227405312 with h | h
  · exact mul_nn hx0 hy0 ⟨t, q, rfl, h⟩
  · obtain rfl : q = 9218868437227405312 := by omega
    obtain ⟨m, L, e1, e2⟩ := read_num false r hr
    have hm : m ≠ 0 := by
      rintro rfl
      have := V_pos h0
      rw [Nat.zero_mul] at e2
      omega
    obtain rfl : t = false := by
      rcases ht with h | h
      · exact h
      · cases h
    have e : floatBits .mul .f64 (double.word false r) (double.word false 9218868437227405312) = some (double.word false 9218868437227405312) := by
      show ((double.read _).product (double.read _)).map double.write = _
      rw [read_inf, e1]
      show (if m = 0 then none else some (Datum.infinity (false ^^ false))).map double.write = _
      rw [if_neg hm]
      show some (double.write (.infinity false)) = _
      rw [write_inf]
    have := fo_of e
    exact ⟨this.1, false, _, this.2, Nat.le_refl _, .inl rfl⟩
theorem sum_inf_left (s : Bool) (t : Bool) (q : Nat) (hq : q < 9218868437227405312) : floatBits .add .f64 (double.word s 9218868437227405312) (double.word t q) = some (double.word s 9218868437227405312) := by
  obtain ⟨m, L, e1, e2⟩ := read_num t q hq
  show ((double.read _).sum (double.read _)).map double.write = _
  rw [read_inf, e1]
  show some (double.write (.infinity s)) = _
  rw [write_inf]
theorem sum_inf_right (s : Bool) (t : Bool) (q : Nat) (hq : q < 9218868437227405312) : floatBits .add .f64 (double.word t q) (double.word s 9218868437227405312) = some (double.word s 9218868437227405312) := by
  obtain ⟨m, L, e1, e2⟩ := read_num t q hq
  show ((double.read _).sum (double.read _)).map double.write = _
  rw [read_inf, e1]
  show some (double.write (.infinity s)) = _
  rw [write_inf]
theorem sum_inf_both (s : Bool) : floatBits .add .f64 (double.word s 9218868437227405312) (double.word s 9218868437227405312) = some (double.word s 9218868437227405312) := by
  show ((double.read _).sum (double.read _)).map double.write = _
  rw [read_inf]
  show (if s = s then some (Datum.infinity s) else none).map double.write = _
  rw [if_pos rfl]
  show some (double.write (.infinity s)) = _
  rw [write_inf]
theorem add_nn {x y : Nat} (hx : NN x) (hy : NN y) : (floatBits .add .f64 x y).isSome ∧ NN (fo .add x y) := by
  obtain ⟨s, r, rfl, hr, hs⟩ := hx
  obtain ⟨t, q, rfl, hq, ht⟩ := hy
  rcases Nat.lt_or_ge r 9218868437227405312 with h | h
  · rcases Nat.lt_or_ge q 9218868437227405312 with h' | h'
    · obtain ⟨g, p, a, b, c, d⟩ := fo_add s t r q h h'
      refine ⟨a, g, p, b, c.le, ?_⟩
      have n1 : 0 ≤ sv s r := by
        rcases hs with rfl | rfl
        · rw [sv_f]; omega
        · cases s <;> simp [sv, V_zero]
      have n2 : 0 ≤ sv t q := by
        rcases ht with rfl | rfl
        · rw [sv_f]; omega
        · cases t <;> simp [sv, V_zero]
      by_cases h0 : sv s r + sv t q = 0
      · right
        rw [h0] at c
        have := (IsN_top (b := 0) c (by decide) (by decide) (by simp)).1
        omega
      · left
        rw [d h0, decide_eq_false (by omega)]
    · obtain rfl : q = 9218868437227405312 := by omega
      have := fo_of (sum_inf_right t s r h)
      exact ⟨this.1, t, _, this.2, Nat.le_refl _, ht⟩
  · obtain rfl : r = 9218868437227405312 := by omega
    obtain rfl : s = false := by rcases hs with h | h; · exact h
                                 · cases h
    rcases Nat.lt_or_ge q 9218868437227405312 with h' | h'
    · have := fo_of (sum_inf_left false t q h')
      exact ⟨this.1, false, _, this.2, Nat.le_refl _, .inl rfl⟩
    · obtain rfl : q = 9218868437227405312 := by omega
      obtain rfl : t = false := by rcases ht with h | h; · exact h
                                   · cases h
      have := fo_of (sum_inf_both false)
      exact ⟨this.1, false, _, this.2, Nat.le_refl _, .inl rfl⟩
/-- A sum of any two, infinite maybe: it has none only where they are infinite and of unlike signs. -/
theorem add_ext {x y : Nat} (hx : Ext x) (hy : Ext y) : floatBits .add .f64 x y = none ∨ ((floatBits .add .f64 x y).isSome ∧ Ext (fo .add x y)) := by
  obtain ⟨s, r, rfl, hr⟩ := hx
  obtain ⟨t, q, rfl, hq⟩ := hy
  rcases Nat.lt_or_ge r 9218868437227405312 with h | h
  · rcases Nat.lt_or_ge q 9218868437227405312 with h' | h'
    · obtain ⟨g, p, a, b, c, d⟩ := fo_add s t r q h h'
      exact .inr ⟨a, g, p, b, c.le⟩
    · obtain rfl : q = 9218868437227405312 := by omega
      have := fo_of (sum_inf_right t s r h)
      exact .inr ⟨this.1, t, _, this.2, Nat.le_refl _⟩
  · obtain rfl : r = 9218868437227405312 := by omega
    rcases Nat.lt_or_ge q 9218868437227405312 with h' | h'
    · have := fo_of (sum_inf_left s t q h')
      exact .inr ⟨this.1, s, _, this.2, Nat.le_refl _⟩
    · obtain rfl : q = 9218868437227405312 := by omega
      by_cases hst : s = t
      · subst hst
        have := fo_of (sum_inf_both s)
        exact .inr ⟨this.1, s, _, this.2, Nat.le_refl _⟩
      · left
        show ((double.read _).sum (double.read _)).map double.write = _
        rw [read_inf, read_inf]
        show (if s = t then some (Datum.infinity s) else none).map double.write = _
        rw [if_neg hst]; rfl
theorem div_ext {b x y : Nat} (hx : Ext x) (hy : Big b y) (hb : b < 9218868437227405312) : (floatBits .quo .f64 x y).isSome ∧ Ext (fo .quo x y) ∧ (NN x → NN (fo .quo x y)) := by
  obtain ⟨s, r, rfl, hr⟩ := hx
  obtain ⟨_, q, rfl, rfl, h3, h4⟩ := hy
  rcases Nat.lt_or_ge r 9218868437227405312 with h | h
  · obtain ⟨p, a, b, c⟩ := fo_div s false r q h (by omega) (by omega)
    refine ⟨a, ⟨_, p, b, c.le⟩, ?_⟩
    rintro ⟨s', r', e, h5, h6⟩
    have hq : 0 < V q := V_pos (by omega)
    rw [Bool.xor_false] at b
    refine ⟨s, p, b, c.le, ?_⟩
    cases s with
    | false => exact .inl rfl
    | true =>
      right
      rw [word_t] at e
      have hr0 : r = 0 := by
        rcases h6 with rfl | rfl
        · rw [word_f] at e; omega
        · cases s'
          · rw [word_f] at e; omega
          · rw [word_t] at e; omega
      subst hr0
      rw [V_zero, Nat.zero_mul] at c
      have := (IsN_top (b := 0) c hq (by decide) (by simp)).1
      omega
  · obtain rfl : r = 9218868437227405312 := by omega
    obtain ⟨m, L, e1, e2⟩ := read_num false q (by omega)
    have e : floatBits .quo .f64 (double.word s 9218868437227405312) (double.word false q) = some (double.word s 9218868437227405312) := by
      show ((double.read _).quotient _ (double.read _)).map double.write = _
      rw [read_inf, e1]
      show some (double.write (.infinity (s ^^ false))) = _
      rw [Bool.xor_false, write_inf]
    have := fo_of e
    refine ⟨this.1, ⟨s, _, this.2, Nat.le_refl _⟩, ?_⟩
    rintro ⟨s', r', e, h5, h6⟩
    refine ⟨s, _, this.2, Nat.le_refl _, ?_⟩
    cases s with
    | false => exact .inl rfl
    | true =>
      exfalso
      rw [word_t] at e
      rcases h6 with rfl | rfl
      · rw [word_f] at e; omega
      · cases s'
        · rw [word_f] at e; omega
        · rw [word_t] at e; omega
/-- What is none stays none. -/
theorem nan_div (w : World) (x y z : Nat) : floatBits .quo .f64 (nb w x y) z = none := by
  obtain ⟨s, r, e, h1, h2⟩ := nb_word w x y
  show ((double.read _).quotient _ (double.read _)).map double.write = _
  rw [e, read_nan s r h1 h2]; rfl
theorem nan_fin (w : World) (x y : Nat) : finB (nb w x y) = false ∧ nb w x y < 18446744073709551616 := by
  obtain ⟨s, r, e, h1, h2⟩ := nb_word w x y
  rw [e, finB_word s r h2]
  refine ⟨decide_eq_false (by omega), ?_⟩
  cases s
  · rw [word_f]; omega
  · rw [word_t]; omega
theorem ask_run {P : Program} (op : BinOp) (hop : op = .add ∨ op = .quo) (t : TypeId) (x y : Nat) (h : floatBits op .f64 x y = none) (w : World) : (binOp op t (.float .f64 x) (.float .f64 y)).run P w = .ok (.float .f64 (nb w x y)) w.drew := by
  rcases hop with rfl | rfl
  · have h' : FloatKind.f64.format.add x y = none := h
    simp [binOp, Op.floatArith, h', nb, Question.forced]
  · have h' : FloatKind.f64.format.div x y = none := h
    simp [binOp, Op.floatArith, h', nb, Question.forced]
end Go.Proofs.Ytmpjcjgdjimioaa.JoinP
