/- Contracts of Mul and of the document's Mul, and the law NumProducts: both tell the product where it is a number. -/
import Derived.Test.YtkpdomnmlinomabGreatIs
import Derived.Laws.MathBits
namespace Go.Proofs.YtkpdomnmlinomabGreat.Nums
open Go.RowKit Go.Proofs.YtkpdomnmlinomabGreat.Aid
set_option linter.unusedSimpArgs false

/-! ### Mul -/
/-- A number's size. -/
def sz (a : Int) : Int := if a < 0 then -a else a
theorem sz_bound {a : Int} (h : -4611686018427387903 ≤ a ∧ a ≤ 4611686018427387903) : 0 ≤ sz a ∧ sz a ≤ 4611686018427387903 := by
  unfold sz; split <;> omega
theorem sz_mul (a b : Int) : sz a * sz b = if decide (a < 0) != decide (b < 0) then -(a * b) else a * b := by
  unfold sz
  by_cases h : a < 0 <;> by_cases h' : b < 0 <;> simp [h, h', Int.neg_mul, Int.mul_neg]
theorem prod_bound' {x y : Int} (hx : 0 ≤ x ∧ x ≤ 4611686018427387903) (hy : 0 ≤ y ∧ y ≤ 4611686018427387903) : 0 ≤ x * y ∧ x * y ≤ 4611686018427387903 * 4611686018427387903 :=
  ⟨Int.mul_nonneg hx.1 hy.1, Int.mul_le_mul hx.2 hy.2 hy.1 (by decide)⟩
theorem abs_c (a : Int) (w : World) (h : -4611686018427387903 ≤ a ∧ a ≤ 4611686018427387903) : Calls Tryz.prog 165 #[.int .i64 a] w fun e w' => e = .returned (.tuple #[.int .i64 (sz a), .bool true]) ∧ w = w' := by
  by_cases h1 : a < 0
  · have e1 : sz a = -a := if_pos h1
    rw [e1]
    obtain ⟨h2, h3⟩ := h
    have h4 : ¬ -a < 0 := by omega
    go_enter Tryz.func165, Tryz.ntmps165
    go_wp2
    go_ret2
    exact ⟨rfl, rfl⟩
  · have e1 : sz a = a := if_neg h1
    rw [e1]
    obtain ⟨h2, h3⟩ := h
    have h4 : 0 ≤ a := by omega
    go_enter Tryz.func165, Tryz.ntmps165
    go_wp2
    go_ret2
    exact ⟨rfl, rfl⟩
theorem ret_u2 {a a' b b' : Int} (h : a = a') (h' : b = b') : Ending.returned (.tuple #[.int .u64 a, .int .u64 b]) = Ending.returned (.tuple #[.int .u64 a', .int .u64 b']) := by rw [h, h']
theorem mul64_hi (x y : Int) (hx0 : 0 ≤ x) (hx : x < 18446744073709551616) (hy0 : 0 ≤ y) (hy : y < 18446744073709551616) :
    IntKind.u64.wrap (IntKind.u64.wrap (IntKind.u64.wrap (x / 4294967296 * (y / 4294967296)) + IntKind.u64.wrap (IntKind.u64.wrap (x / 4294967296 * bits BinOp.and IntKind.u64 y 4294967295) +
      IntKind.u64.wrap (bits BinOp.and IntKind.u64 x 4294967295 * bits BinOp.and IntKind.u64 y 4294967295) / 4294967296) / 4294967296) +
      IntKind.u64.wrap (bits BinOp.and IntKind.u64 (IntKind.u64.wrap (IntKind.u64.wrap (x / 4294967296 * bits BinOp.and IntKind.u64 y 4294967295) +
        IntKind.u64.wrap (bits BinOp.and IntKind.u64 x 4294967295 * bits BinOp.and IntKind.u64 y 4294967295) / 4294967296)) 4294967295 +
        IntKind.u64.wrap (bits BinOp.and IntKind.u64 x 4294967295 * (y / 4294967296))) / 4294967296) = x * y / 18446744073709551616 := by
  simp only [u64_eq]
  rw [and_low32 x hx0 hx, and_low32 y hy0 hy, and_low32 _ (Int.emod_nonneg _ (by decide)) (Int.emod_lt_of_pos _ (by decide))]
  exact mul64_arith x y hx0 hx hy0 hy
theorem mul64_c (x y h l : Int) (w : World) (hx0 : 0 ≤ x) (hx : x < 18446744073709551616) (hy0 : 0 ≤ y) (hy : y < 18446744073709551616) (hh : x * y / 18446744073709551616 = h) (hl : x * y % 18446744073709551616 = l) :
    Calls Tryz.prog 166 #[.int .u64 x, .int .u64 y] w fun e w' => e = .returned (.tuple #[.int .u64 h, .int .u64 l]) ∧ w = w' := by
  have e := mul64_hi x y hx0 hx hy0 hy
  have HE := Lib.hid (e.trans hh)
  have HL := Lib.hid ((u64_eq (x * y)).trans hl)
  clear e hh hl
  go_enter Tryz.func166, Tryz.ntmps166
  go_wp2
  go_ret2
  exact ⟨ret_u2 HE.out HL.out, rfl⟩
/-- What Mul tells. -/
def mulB (a b : Int) : Bool := isN a && isN b && decide (sz a * sz b ≤ 4611686018427387903)
def mulV (a b : Int) : Int := if mulB a b = true then a * b else 0
theorem ret_iB {a a' : Int} {b : Bool} (h : a = a') : Ending.returned (.tuple #[.int .i64 a, .bool b]) = Ending.returned (.tuple #[.int .i64 a', .bool b]) := by rw [h]
theorem mul_c (a b : Int) (w : World) : Calls Tryz.prog 112 #[.int .i64 a, .int .i64 b] w fun e w' => e = .returned (.tuple #[.int .i64 (mulV a b), .bool (mulB a b)]) ∧ w = w' := by
  by_cases ha : -4611686018427387903 ≤ a ∧ a ≤ 4611686018427387903
  · have i1 := isN_t ha
    by_cases hb : -4611686018427387903 ≤ b ∧ b ≤ 4611686018427387903
    · have i2 := isN_t hb
      obtain ⟨x0, x1⟩ := sz_bound ha
      obtain ⟨y0, y1⟩ := sz_bound hb
      have X1 : sz a < 18446744073709551616 := by omega
      have Y1 : sz b < 18446744073709551616 := by omega
      have HP := prod_bound' ⟨x0, x1⟩ ⟨y0, y1⟩
      have HA := Lib.hid ha
      have HB := Lib.hid hb
      have hm := sz_mul a b
      clear ha hb
      by_cases hp : sz a * sz b ≤ 4611686018427387903
      · have e1 : mulB a b = true := by unfold mulB; rw [i1, i2]; simp [hp]
        have e2 : mulV a b = a * b := if_pos e1
        rw [e1, e2]
        obtain ⟨h, rfl⟩ : ∃ h : Int, h = 0 := ⟨_, rfl⟩
        obtain ⟨l, hl⟩ : ∃ l, sz a * sz b = l := ⟨_, rfl⟩
        rw [hl] at HP hp hm
        have Hh := Lib.hid (show sz a * sz b / 18446744073709551616 = 0 by rw [hl]; omega)
        have Hl := Lib.hid (show sz a * sz b % 18446744073709551616 = l by rw [hl]; omega)
        have l0 := HP.1
        clear hl HP e1 e2
        by_cases ca : a < 0
        · by_cases cb : b < 0
          · have HN := Lib.hid (show l = a * b by simp [ca, cb] at hm; omega)
            clear hm
            go_enter Tryz.func112, Tryz.ntmps112
            go_wp2_with (first | (go_at_call 164; (with_reducible refine (is_c a _).mono ?_); rintro e w' ⟨rfl, rfl⟩) | (go_at_call 164; (with_reducible refine (is_c b _).mono ?_); rintro e w' ⟨rfl, rfl⟩) | (go_at_call 165; (with_reducible refine (abs_c a _ HA.out).mono ?_); rintro e w' ⟨rfl, rfl⟩) | (go_at_call 165; (with_reducible refine (abs_c b _ HB.out).mono ?_); rintro e w' ⟨rfl, rfl⟩) | (go_at_call 166; (with_reducible refine (mul64_c (sz a) (sz b) 0 l _ x0 X1 y0 Y1 Hh.out Hl.out).mono ?_); rintro e w' ⟨rfl, rfl⟩))
            go_ret2
            exact ⟨ret_iB HN.out, rfl⟩
          · have HN := Lib.hid (show -l = a * b by simp [ca, cb] at hm; omega)
            clear hm
            have cb' : decide (b < 0) = false := decide_eq_false cb
            go_enter Tryz.func112, Tryz.ntmps112
            go_wp2_with (first | (go_at_call 164; (with_reducible refine (is_c a _).mono ?_); rintro e w' ⟨rfl, rfl⟩) | (go_at_call 164; (with_reducible refine (is_c b _).mono ?_); rintro e w' ⟨rfl, rfl⟩) | (go_at_call 165; (with_reducible refine (abs_c a _ HA.out).mono ?_); rintro e w' ⟨rfl, rfl⟩) | (go_at_call 165; (with_reducible refine (abs_c b _ HB.out).mono ?_); rintro e w' ⟨rfl, rfl⟩) | (go_at_call 166; (with_reducible refine (mul64_c (sz a) (sz b) 0 l _ x0 X1 y0 Y1 Hh.out Hl.out).mono ?_); rintro e w' ⟨rfl, rfl⟩))
            go_ret2
            exact ⟨ret_iB HN.out, rfl⟩
        · have ca' : decide (a < 0) = false := decide_eq_false (by omega)
          by_cases cb : b < 0
          · have HN := Lib.hid (show -l = a * b by simp [ca, cb] at hm; omega)
            clear hm
            go_enter Tryz.func112, Tryz.ntmps112
            go_wp2_with (first | (go_at_call 164; (with_reducible refine (is_c a _).mono ?_); rintro e w' ⟨rfl, rfl⟩) | (go_at_call 164; (with_reducible refine (is_c b _).mono ?_); rintro e w' ⟨rfl, rfl⟩) | (go_at_call 165; (with_reducible refine (abs_c a _ HA.out).mono ?_); rintro e w' ⟨rfl, rfl⟩) | (go_at_call 165; (with_reducible refine (abs_c b _ HB.out).mono ?_); rintro e w' ⟨rfl, rfl⟩) | (go_at_call 166; (with_reducible refine (mul64_c (sz a) (sz b) 0 l _ x0 X1 y0 Y1 Hh.out Hl.out).mono ?_); rintro e w' ⟨rfl, rfl⟩))
            go_ret2
            exact ⟨ret_iB HN.out, rfl⟩
          · have HN := Lib.hid (show l = a * b by simp [ca, cb] at hm; omega)
            clear hm
            have cb' : decide (b < 0) = false := decide_eq_false cb
            go_enter Tryz.func112, Tryz.ntmps112
            go_wp2_with (first | (go_at_call 164; (with_reducible refine (is_c a _).mono ?_); rintro e w' ⟨rfl, rfl⟩) | (go_at_call 164; (with_reducible refine (is_c b _).mono ?_); rintro e w' ⟨rfl, rfl⟩) | (go_at_call 165; (with_reducible refine (abs_c a _ HA.out).mono ?_); rintro e w' ⟨rfl, rfl⟩) | (go_at_call 165; (with_reducible refine (abs_c b _ HB.out).mono ?_); rintro e w' ⟨rfl, rfl⟩) | (go_at_call 166; (with_reducible refine (mul64_c (sz a) (sz b) 0 l _ x0 X1 y0 Y1 Hh.out Hl.out).mono ?_); rintro e w' ⟨rfl, rfl⟩))
            go_ret2
            exact ⟨ret_iB HN.out, rfl⟩
      · have e1 : mulB a b = false := by unfold mulB; simp [hp]
        have e2 : mulV a b = 0 := if_neg (by rw [e1]; decide)
        rw [e1, e2]
        clear e1 e2 hm
        obtain ⟨l, hl⟩ : ∃ l, sz a * sz b % 18446744073709551616 = l := ⟨_, rfl⟩
        by_cases h0 : sz a * sz b / 18446744073709551616 = 0
        · have Hh := Lib.hid h0
          have Hl := Lib.hid hl
          have l1 : 4611686018427387903 < l := by omega
          clear h0 hl hp HP
          go_enter Tryz.func112, Tryz.ntmps112
          go_wp2_with (first | (go_at_call 164; (with_reducible refine (is_c a _).mono ?_); rintro e w' ⟨rfl, rfl⟩) | (go_at_call 164; (with_reducible refine (is_c b _).mono ?_); rintro e w' ⟨rfl, rfl⟩) | (go_at_call 165; (with_reducible refine (abs_c a _ HA.out).mono ?_); rintro e w' ⟨rfl, rfl⟩) | (go_at_call 165; (with_reducible refine (abs_c b _ HB.out).mono ?_); rintro e w' ⟨rfl, rfl⟩) | (go_at_call 166; (with_reducible refine (mul64_c (sz a) (sz b) 0 l _ x0 X1 y0 Y1 Hh.out Hl.out).mono ?_); rintro e w' ⟨rfl, rfl⟩))
          go_ret2
          exact ⟨rfl, rfl⟩
        · obtain ⟨h, hh⟩ : ∃ h, sz a * sz b / 18446744073709551616 = h := ⟨_, rfl⟩
          rw [hh] at h0
          have Hh := Lib.hid hh
          have Hl := Lib.hid hl
          have hq : (h == 0) = false := by simpa using h0
          have hq' : (h != 0) = true := by simpa using h0
          clear hl hp HP hh
          go_enter Tryz.func112, Tryz.ntmps112
          go_wp2_with (first | (go_at_call 164; (with_reducible refine (is_c a _).mono ?_); rintro e w' ⟨rfl, rfl⟩) | (go_at_call 164; (with_reducible refine (is_c b _).mono ?_); rintro e w' ⟨rfl, rfl⟩) | (go_at_call 165; (with_reducible refine (abs_c a _ HA.out).mono ?_); rintro e w' ⟨rfl, rfl⟩) | (go_at_call 165; (with_reducible refine (abs_c b _ HB.out).mono ?_); rintro e w' ⟨rfl, rfl⟩) | (go_at_call 166; (with_reducible refine (mul64_c (sz a) (sz b) h l _ x0 X1 y0 Y1 Hh.out Hl.out).mono ?_); rintro e w' ⟨rfl, rfl⟩))
          go_ret2
          exact ⟨rfl, rfl⟩
    · have i2 := isN_f hb
      have e1 : mulB a b = false := by unfold mulB; rw [i2]; simp
      have e2 : mulV a b = 0 := if_neg (by rw [e1]; decide)
      rw [e1, e2]
      clear e1 e2 ha hb
      go_enter Tryz.func112, Tryz.ntmps112
      go_wp2_with (first | (go_at_call 164; (with_reducible refine (is_c a _).mono ?_); rintro e w' ⟨rfl, rfl⟩) | (go_at_call 164; (with_reducible refine (is_c b _).mono ?_); rintro e w' ⟨rfl, rfl⟩))
      go_ret2
      exact ⟨rfl, rfl⟩
  · have i1 := isN_f ha
    have e1 : mulB a b = false := by unfold mulB; rw [i1]; simp
    have e2 : mulV a b = 0 := if_neg (by rw [e1]; decide)
    rw [e1, e2]
    clear e1 e2 ha
    go_enter Tryz.func112, Tryz.ntmps112
    go_wp2_with (first | (go_at_call 164; (with_reducible refine (is_c a _).mono ?_); rintro e w' ⟨rfl, rfl⟩))
    go_ret2
    exact ⟨rfl, rfl⟩

/-! ### the document's Mul -/
end Go.Proofs.YtkpdomnmlinomabGreat.Nums
