/- Each float operation of Of has a result: the words stay finite. -/
import Derived.Test.YtbplgjocammnbaaGreatDivW
import Derived.Test.YtbplgjocammnbaaGreatOf
namespace Go.Proofs.YtbplgjocammnbaaGreat.Fin
open Ieee Go.RowKit Go.Proofs.YtbplgjocammnbaaGreat.Aid Go.Proofs.YtbplgjocammnbaaGreat.Mem Go.Proofs.YtbplgjocammnbaaGreat.Nums Go.Proofs.YtbplgjocammnbaaGreat.Sums Go.Proofs.YtbplgjocammnbaaGreat.MinMax Go.Proofs.YtbplgjocammnbaaGreat.Of Go.Proofs.YtbplgjocammnbaaGreat.Fl
set_option linter.unusedSimpArgs false
set_option linter.unusedVariables false
theorem IsN_top {num den p b : Nat} (h : IsN num den p) (hd : 0 < den) (hb : b ≤ 9218868437227405312) (hv : num ≤ V b * den) : p ≤ b ∧ V p ≤ V b := by
  have h1 : p ≤ b := h.mono hd hd (Nat.mul_le_mul_right _ hv) (IsN.exact hd hb)
  exact ⟨h1, V_le h1⟩
theorem V_R63 : V 4890909195324358656 = 9223372036854775808 * U := by decide +kernel
theorem V_R126 : V 5174635971848699904 = 85070591730234615865843651857942052864 * U := by decide +kernel
theorem U_eq : (2 : Nat) ^ 1074 = U := U_def.symm
/-- A whole number's word. -/
theorem fi_word (x : Int) (h : x.natAbs ≤ 4611686018427387904) : ∃ s q, fi x = double.word s q ∧ q ≤ 4886405595696988160 ∧ V q ≤ 4611686018427387904 * U := by
  obtain ⟨r, h1, h2⟩ := int_isN x
  have := (int_rung h2 h).1
  refine ⟨_, r, h1, this, ?_⟩
  rw [← V_R62]
  exact V_le this
theorem fi_small (n : Nat) (h : n ≤ 9007199254740992) : ∃ q, fi (n : Int) = double.word false q ∧ q < 9218868437227405312 ∧ V q = n * U := by
  obtain ⟨r, h1, h2⟩ := int_isN (n : Int)
  rw [U_eq, Int.natAbs_natCast] at h2
  obtain ⟨q, e, hq⟩ := rep_whole n h
  obtain rfl := isN_exact h2 e (by omega)
  refine ⟨r, ?_, hq, e⟩
  rw [decide_eq_false (by omega)] at h1
  exact h1
theorem fo_of {op : BinOp} {a b r : Nat} (h : floatBits op .f64 a b = some r) : (floatBits op .f64 a b).isSome ∧ fo op a b = r := by
  unfold fo
  rw [h]
  exact ⟨rfl, rfl⟩
theorem fo_div (s t : Bool) (r q : Nat) (hr : r < 9218868437227405312) (hq : q < 9218868437227405312) (h0 : 0 < q) :
    ∃ p, (floatBits .quo .f64 (double.word s r) (double.word t q)).isSome ∧ fo .quo (double.word s r) (double.word t q) = double.word (s ^^ t) p ∧ IsN (V r * U) (V q) p := by
  obtain ⟨p, e, h⟩ := div_word s t r q hr hq h0
  have := fo_of (op := .quo) (a := double.word s r) (b := double.word t q) (r := double.word (s ^^ t) p) e
  exact ⟨p, this.1, this.2, h⟩
theorem fo_mul (s t : Bool) (r q : Nat) (hr : r < 9218868437227405312) (hq : q < 9218868437227405312) :
    ∃ p, (floatBits .mul .f64 (double.word s r) (double.word t q)).isSome ∧ fo .mul (double.word s r) (double.word t q) = double.word (s ^^ t) p ∧ IsN (V r * V q) U p := by
  obtain ⟨p, e, h⟩ := mul_word s t r q hr hq
  have := fo_of (op := .mul) (a := double.word s r) (b := double.word t q) (r := double.word (s ^^ t) p) e
  exact ⟨p, this.1, this.2, h⟩
theorem fo_add (s t : Bool) (r q : Nat) (hr : r < 9218868437227405312) (hq : q < 9218868437227405312) :
    ∃ g p, (floatBits .add .f64 (double.word s r) (double.word t q)).isSome ∧ fo .add (double.word s r) (double.word t q) = double.word g p ∧ IsN (sv s r + sv t q).natAbs 1 p ∧ (sv s r + sv t q ≠ 0 → g = decide (sv s r + sv t q < 0)) := by
  obtain ⟨g, p, e, h, k⟩ := add_word s t r q hr hq
  have := fo_of (op := .add) (a := double.word s r) (b := double.word t q) (r := double.word g p) e
  exact ⟨g, p, this.1, this.2, h, k⟩
theorem fo_sub (s t : Bool) (r q : Nat) (hr : r < 9218868437227405312) (hq : q < 9218868437227405312) :
    ∃ g p, (floatBits .sub .f64 (double.word s r) (double.word t q)).isSome ∧ fo .sub (double.word s r) (double.word t q) = double.word g p ∧ IsN (sv s r - sv t q).natAbs 1 p ∧ (sv s r - sv t q ≠ 0 → g = decide (sv s r - sv t q < 0)) := by
  obtain ⟨g, p, e, h, k⟩ := sub_word s t r q hr hq
  have := fo_of (op := .sub) (a := double.word s r) (b := double.word t q) (r := double.word g p) e
  exact ⟨g, p, this.1, this.2, h, k⟩
theorem pos_of_V {q : Nat} (h : 0 < V q) : 0 < q := by
  rcases Nat.eq_zero_or_pos q with rfl | h'
  · rw [V_zero] at h; omega
  · exact h'
section
variable {xs : List Int} {n : Nat}
theorem mean_word (hT : isN (tot xs) = true) (hp : 0 < n) (hn : n ≤ 9007199254740992) : (floatBits .quo .f64 (fi (tot xs)) (fi n)).isSome ∧ ∃ s q, meanF xs n = double.word s q ∧ q ≤ 4886405595696988160 := by
  have hT' := isN_of hT
  obtain ⟨s, r, e1, h1, v1⟩ := fi_word (tot xs) (by omega)
  obtain ⟨q, e2, h2, v2⟩ := fi_small n hn
  have hv : 0 < V q := by rw [v2]; exact Nat.mul_pos hp U_pos
  obtain ⟨p, a, b, c⟩ := fo_div s false r q (by omega) h2 (pos_of_V hv)
  unfold meanF
  rw [e1, e2]
  refine ⟨a, _, p, b, (IsN_top (b := 4886405595696988160) c hv (by omega) ?_).1⟩
  rw [V_R62, v2]
  calc V r * U ≤ 4611686018427387904 * U * U := Nat.mul_le_mul_right _ v1
    _ = 4611686018427387904 * U * (1 * U) := by rw [Nat.one_mul]
    _ ≤ 4611686018427387904 * U * (n * U) := Nat.mul_le_mul_left _ (Nat.mul_le_mul_right _ hp)
theorem sq_u (u : Nat) : 9223372036854775808 * u * (9223372036854775808 * u) = 85070591730234615865843651857942052864 * u * u := by
  rw [Nat.mul_mul_mul_comm, Nat.mul_assoc _ u u, show (9223372036854775808 : Nat) * 9223372036854775808 = 85070591730234615865843651857942052864 from by decide]
theorem sv_le (s : Bool) (r : Nat) : (sv s r).natAbs = V r := sv_abs s r
/-- A square of a difference. -/
theorem sq_word {m x : Nat} {a : Int} (ha : isN a = true) (hm : ∃ s q, m = double.word s q ∧ q ≤ 4886405595696988160) :
    (floatBits .sub .f64 (fi a) m).isSome ∧ (floatBits .mul .f64 (fo .sub (fi a) m) (fo .sub (fi a) m)).isSome ∧ ∃ p, fo .mul (fo .sub (fi a) m) (fo .sub (fi a) m) = double.word false p ∧ p ≤ 5174635971848699904 := by
  have ha' := isN_of ha
  obtain ⟨s, r, e1, h1, v1⟩ := fi_word a (by omega)
  obtain ⟨t, q, rfl, hq⟩ := hm
  have vq : V q ≤ 4611686018427387904 * U := by rw [← V_R62]; exact V_le hq
  rw [e1]
  obtain ⟨g, d, a1, a2, a3, _⟩ := fo_sub s t r q (by omega) (by omega)
  have hd := IsN_top (b := 4890909195324358656) a3 (by decide) (by omega) (by
    rw [V_R63, Nat.mul_one]
    have := sv_abs s r
    have := sv_abs t q
    omega)
  rw [a2]
  obtain ⟨p, b1, b2, b3⟩ := fo_mul g g d d (by omega) (by omega)
  rw [Bool.xor_self] at b2
  refine ⟨a1, b1, p, b2, (IsN_top (b := 5174635971848699904) b3 U_pos (by omega) ?_).1⟩
  have hv := hd.2
  rw [V_R63] at hv
  rw [V_R126]
  exact Nat.le_trans (Nat.mul_le_mul hv hv) (Nat.le_of_eq (sq_u U))
theorem tower (k : Nat) (hk : k ≤ 9007199254740992) : ∃ b, V b = k * (85070591730234615865843651857942052864 * U) ∧ b ≤ 5413326752099336192 := by
  obtain ⟨q, e, h⟩ := rep (126 + 1074) k hk
  refine ⟨q, ?_, by omega⟩
  rw [e, pow_U 126, show (2 : Nat) ^ 126 = 85070591730234615865843651857942052864 from by decide]
/-- The squares together, and each next one. -/
theorem vs_word (hl : xs.length = n) (hall : ∀ x ∈ xs, isN x = true) {m : Nat} (hm : ∃ s q, m = double.word s q ∧ q ≤ 4886405595696988160) (hn : n ≤ 9007199254740992) : ∀ k, k ≤ n → ∃ s q, vsF xs m k = double.word s q ∧ q < 9218868437227405312 ∧ V q ≤ k * (85070591730234615865843651857942052864 * U) ∧ (s = false ∨ q = 0)
  | 0, _ => ⟨false, 0, by rw [vsF, word_f], by decide, by simp [V_zero], .inl rfl⟩
  | k + 1, hk => by
    obtain ⟨s, q, e, h, v, hs⟩ := vs_word hl hall hm hn k (by omega)
    have hx : xs[k]? = some (xs[k]'(by omega)) := List.getElem?_eq_getElem _
    obtain ⟨_, _, p, e2, h2⟩ := sq_word (x := 0) (hall _ (List.mem_of_getElem? hx)) hm
    have v2 : V p ≤ 85070591730234615865843651857942052864 * U := by rw [← V_R126]; exact V_le h2
    obtain ⟨g, r, a1, a2, a3, a4⟩ := fo_add s false q p h (by omega)
    obtain ⟨b, eb, hb⟩ := tower (k + 1) (by omega)
    have hnn : 0 ≤ sv s q + sv false p := by
      rcases hs with rfl | rfl
      · simp only [sv_f]; omega
      · cases s <;> simp [sv, V_zero]
    have := IsN_top (b := b) a3 (by decide) (by omega) (by
      rw [eb, Nat.mul_one, Nat.add_mul, Nat.one_mul]
      have := sv_abs s q
      have := sv_abs false p
      omega)
    refine ⟨g, r, ?_, by omega, by rw [← eb]; exact this.2, ?_⟩
    · rw [vsF, hx, Option.getD_some, e, e2, a2]
    · by_cases h0 : sv s q + sv false p = 0
      · right
        rw [h0] at a3
        have := (IsN_top (b := 0) a3 (by decide) (by decide) (by simp)).1
        omega
      · left
        rw [a4 h0, decide_eq_false (by omega)]
theorem of_def (hl : xs.length = n) (hall : ∀ x ∈ xs, isN x = true) (hT : isN (tot xs) = true) (hp : 0 < n) (hn : n ≤ 9007199254740992) : OfDef xs n := by
  have hm := mean_word hT hp hn
  have hsq : ∀ (k : Nat) (x : Int), xs[k]? = some x → isN x = true := fun k x hx => hall x (List.mem_of_getElem? hx)
  refine ⟨hm.1, fun k x hx => (sq_word (x := 0) (hsq k x hx) hm.2).1, fun k x hx => (sq_word (x := 0) (hsq k x hx) hm.2).2.1, fun k x hx => ?_, ?_⟩
  · obtain ⟨p, e, h⟩ := (sq_word (x := 0) (hsq k x hx) hm.2).2.2
    have hk : k ≤ n := by have := (List.getElem?_eq_some_iff.1 hx).1; omega
    obtain ⟨s, q, e2, h2, _⟩ := vs_word hl hall hm.2 hn k hk
    rw [e, e2]
    obtain ⟨_, _, a, _⟩ := fo_add s false q p h2 (by omega)
    exact a
  · obtain ⟨s, q, e2, h2, _⟩ := vs_word hl hall hm.2 hn n (Nat.le_refl _)
    obtain ⟨r, e3, h3, v3⟩ := fi_small n hn
    have hv : 0 < V r := by rw [v3]; exact Nat.mul_pos hp U_pos
    rw [e2, e3]
    obtain ⟨_, a, _⟩ := fo_div s false q r h2 h3 (pos_of_V hv)
    exact a
theorem of_hd (hl : xs.length = n) (hn : n ≤ 9007199254740992) : ofE xs = 0 → 0 < n → OfDef xs n := by
  intro h hp
  unfold ofE at h
  split at h
  · rename_i h1
    split at h
    · rename_i h2
      exact of_def hl (by simpa using h1) h2 hp hn
    · cases h
  · cases h
end
theorem of_any (xs : List Int) (A : Option Addr) (n c : Nat) (w : World) (h : Ints w .i64 A n xs) (hn : n ≤ 17592186044416) :
    Calls Tryz.prog 94 #[.slice A n c] w fun e w' => e = .returned (.tuple #[.agg (ofA xs n), .int .i64 (ofE xs)]) ∧ Below w.heap.size w w' :=
  of_c xs A n c w h hn (of_hd h.1 (by omega))
end Go.Proofs.YtbplgjocammnbaaGreat.Fin
