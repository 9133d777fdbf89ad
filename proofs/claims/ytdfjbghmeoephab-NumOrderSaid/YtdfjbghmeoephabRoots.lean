/- Contracts of Root and of the document's Root, and the law NumRoots: both tell the greatest whole number whose square is not above. -/
import Derived.Test.YtdfjbghmeoephabNums
import Derived.Test.YtdfjbghmeoephabLen
import Derived.Lib.BitFns
import Derived.LoopTactic
import Derived.WalkMore
namespace Go.Proofs.Ytdfjbghmeoephab.Roots
open Go.RowKit Go.Proofs.Ytdfjbghmeoephab.Aid Go.Proofs.Ytdfjbghmeoephab.Nums
set_option linter.unusedSimpArgs false

/-- What Len64 tells: how many bits. -/
theorem len64_c (x : Int) (w : World) (h0 : 0 ≤ x) (h1 : x ≤ 18446744073709551615) :
    Calls Try.prog 41 #[.int .u64 x] w fun e w' => e = .returned (.int .i64 (Lib.bitLen x.toNat)) ∧ w = w' :=
  (Len.len64_c x w h0 h1).mono fun _ _ ⟨h, h'⟩ => ⟨h, h'.symm⟩
theorem len_c (x : Int) (w : World) (h0 : 0 ≤ x) (h1 : x ≤ 18446744073709551615) :
    Calls Try.prog 34 #[.int .u64 x] w fun e w' => e = .returned (.int .i64 (Lib.bitLen x.toNat)) ∧ w = w' := by
  go_enter Try.func34, Try.ntmps34
  go_wp2_with (go_at_call 41; (with_reducible refine (len64_c x _ h0 h1).mono ?_); rintro e w' ⟨rfl, rfl⟩)
  go_ret
  exact ⟨rfl, rfl⟩

/-! ### the root -/
def IsRt (n s : Int) : Prop := 0 ≤ s ∧ s * s ≤ n ∧ n < (s + 1) * (s + 1)
theorem IsRt.uniq {n s t : Int} (h : IsRt n s) (k : IsRt n t) : s = t := by
  obtain ⟨a, b, c⟩ := h
  obtain ⟨a', b', c'⟩ := k
  rcases Int.lt_trichotomy s t with h | h | h
  · have : (s + 1) * (s + 1) ≤ t * t := Int.mul_le_mul (by omega) (by omega) (by omega) (by omega)
    omega
  · exact h
  · have : (t + 1) * (t + 1) ≤ s * s := Int.mul_le_mul (by omega) (by omega) (by omega) (by omega)
    omega
theorem isRt_of {n : Int} (h : 0 ≤ n) : ∃ s, IsRt n s := by
  have key : ∀ m : Nat, ∃ s : Int, IsRt (m : Int) s := by
    intro m
    induction m with
    | zero => exact ⟨0, by decide, by decide, by decide⟩
    | succ m ih =>
      obtain ⟨s, a, b, c⟩ := ih
      have e : (s + 1 + 1) * (s + 1 + 1) = (s + 1) * (s + 1) + 2 * s + 3 := by grind
      have e' : (s + 1) * (s + 1) = s * s + 2 * s + 1 := by grind
      by_cases h : ((m : Int) + 1) < (s + 1) * (s + 1)
      · exact ⟨s, a, by push_cast; omega, by push_cast; omega⟩
      · exact ⟨s + 1, by omega, by push_cast; omega, by push_cast; omega⟩
  obtain ⟨m, rfl⟩ := Int.eq_ofNat_of_zero_le h
  exact key m
theorem IsRt.small {n s : Int} (h : IsRt n s) (hn : n ≤ 4611686018427387903) : s ≤ 2147483647 := by
  refine Int.not_lt.1 fun hh => ?_
  have : 2147483648 * 2147483648 ≤ s * s := Int.mul_le_mul (by omega) (by omega) (by omega) (by omega)
  have := h.2.1
  omega
/-- Newton's step: from above, not below. -/
theorem newton {n s r : Int} (h : IsRt n s) (hr : 1 ≤ r) : s ≤ (r + n / r) / 2 := by
  obtain ⟨a, b, c⟩ := h
  have h1 : n < r * (n / r + 1) := by
    have := Int.lt_mul_ediv_self_add (x := n) (k := r) (by omega)
    rw [Int.mul_add, Int.mul_one]; exact this
  have hq : 0 ≤ n / r := Int.ediv_nonneg (by have := Int.mul_nonneg a a; omega) (by omega)
  generalize n / r = q at *
  by_cases hh : s ≤ (r + q) / 2
  · exact hh
  · exfalso
    have h2 : r + (q + 1) ≤ 2 * s := by omega
    -- r (q + 1) ≤ s s
    have h3 : r * (q + 1) ≤ s * s := by
      obtain ⟨d, hd⟩ : ∃ d, d = 2 * s - r - (q + 1) := ⟨_, rfl⟩
      have h4 : (r - (q + 1)) * (r - (q + 1)) = (r + (q + 1)) * (r + (q + 1)) - 4 * (r * (q + 1)) := by grind
      have h5 : 0 ≤ (r - (q + 1)) * (r - (q + 1)) := by
        rcases Int.le_total 0 (r - (q + 1)) with hx | hx
        · exact Int.mul_nonneg hx hx
        · exact Int.mul_nonneg_of_nonpos_of_nonpos hx hx
      have h6 : (r + (q + 1)) * (r + (q + 1)) ≤ (2 * s) * (2 * s) := Int.mul_le_mul h2 h2 (by omega) (by omega)
      have h7 : (2 * s) * (2 * s) = 4 * (s * s) := by grind
      omega
    omega
theorem newton_end {n s r : Int} (h : IsRt n s) (hr : 1 ≤ r) (hs : s ≤ r) (he : r ≤ (r + n / r) / 2) : r = s := by
  obtain ⟨a, b, c⟩ := h
  have h1 : r ≤ n / r := by omega
  have h2 : r * r ≤ n := by
    have := Int.mul_ediv_self_le (x := n) (k := r) (by omega)
    have h3 : r * r ≤ r * (n / r) := Int.mul_le_mul_of_nonneg_left h1 (by omega)
    omega
  have : ¬ s < r := fun hh => by
    have : (s + 1) * (s + 1) ≤ r * r := Int.mul_le_mul (by omega) (by omega) (by omega) (by omega)
    omega
  omega
theorem quo_bound {n r : Int} (hn : 0 ≤ n) (hn' : n ≤ 4611686018427387903) (hr : 1 ≤ r) : 0 ≤ n / r ∧ n / r ≤ 4611686018427387903 :=
  ⟨Int.ediv_nonneg hn (by omega), Int.le_trans (Int.ediv_le_self _ hn) hn'⟩
theorem bitLen_lt (x : Nat) (h : x < 2 ^ 64) : x < 2 ^ Lib.bitLen x := by
  have key : ∀ f x : Nat, x < 2 ^ f → x < 2 ^ Lib.bitLenAux f x := by
    intro f
    induction f with
    | zero => intro x hx; simpa [Lib.bitLenAux] using hx
    | succ f ih =>
      intro x hx
      by_cases h0 : x = 0
      · subst h0; exact Nat.two_pow_pos _
      · have := ih (x / 2) (by rw [Nat.pow_succ] at hx; omega)
        rw [Lib.bitLenAux, if_neg h0, Nat.add_comm, Nat.pow_succ]
        omega
  exact key 64 x h
theorem bitLen_le (x k : Nat) (h : x < 2 ^ k) : Lib.bitLen x ≤ k := by
  have key : ∀ f x k : Nat, x < 2 ^ k → Lib.bitLenAux f x ≤ k := by
    intro f
    induction f with
    | zero => intro x k _; exact Nat.zero_le _
    | succ f ih =>
      intro x k hx
      by_cases h0 : x = 0
      · rw [Lib.bitLenAux, if_pos h0]; exact Nat.zero_le _
      · cases k with
        | zero => simp at hx; exact absurd hx h0
        | succ k =>
          have := ih (x / 2) k (by rw [Nat.pow_succ] at hx; omega)
          rw [Lib.bitLenAux, if_neg h0]; omega
  exact key 64 x k h
theorem start_ge {n s : Int} (h : IsRt n s) (hn : n ≤ 4611686018427387903) (h0 : 0 ≤ n) : ∃ k : Nat, (Lib.bitLen n.toNat + 1) / 2 = k ∧ k ≤ 31 ∧ s ≤ ((2 ^ k : Nat) : Int) := by
  refine ⟨_, rfl, ?_, ?_⟩
  · have := bitLen_le n.toNat 62 (by omega)
    omega
  · have h1 := bitLen_lt n.toNat (by omega)
    generalize Lib.bitLen n.toNat = L at *
    have h3 : 2 ^ L ≤ 2 ^ ((L + 1) / 2) * 2 ^ ((L + 1) / 2) := by
      rw [← Nat.pow_add]; exact Nat.pow_le_pow_right (by omega) (by omega)
    generalize 2 ^ ((L + 1) / 2) = P at *
    generalize 2 ^ L = Q at *
    refine Int.not_lt.1 fun hh => ?_
    have h2 : (P : Int) * (P : Int) ≤ s * s := Int.mul_le_mul (by omega) (by omega) (by omega) h.1
    have h4 : ((P * P : Nat) : Int) ≤ s * s := by push_cast; exact h2
    have := h.2.1
    omega
theorem pow_le31 {k : Nat} (h : k ≤ 31) : 1 ≤ ((2 ^ k : Nat) : Int) ∧ ((2 ^ k : Nat) : Int) ≤ 2147483648 := by
  have h1 := Nat.two_pow_pos k
  have h2 : 2 ^ k ≤ 2 ^ 31 := Nat.pow_le_pow_right (by omega) h
  generalize 2 ^ k = P at *
  omega

theorem root_no (n : Int) (w : World) (h : n < 0 ∨ isN n = false) : Calls Try.prog 12 #[.int .i64 n] w fun e w' => e = .returned (.tuple #[.int .i64 0, .bool false]) ∧ w = w' := by
  by_cases h0 : n < 0
  · clear h
    go_enter Try.func12, Try.ntmps12
    go_wp2_with (fail)
    go_ret2
    exact ⟨rfl, rfl⟩
  · have h1 : isN n = false := by rcases h with h | h; exact absurd h h0; exact h
    have h2 : 0 ≤ n := by omega
    clear h h0
    go_enter Try.func12, Try.ntmps12
    go_wp2_with (first | (go_at_call 29; (with_reducible refine (is_c n _).mono ?_); rintro e w' ⟨rfl, rfl⟩))
    go_ret2
    exact ⟨rfl, rfl⟩
theorem root_zero (w : World) : Calls Try.prog 12 #[.int .i64 0] w fun e w' => e = .returned (.tuple #[.int .i64 0, .bool true]) ∧ w = w' := by
  have h1 : isN 0 = true := by decide
  go_enter Try.func12, Try.ntmps12
  go_wp2_with (first | (go_at_call 29; (with_reducible refine (is_c 0 _).mono ?_); rintro e w' ⟨rfl, rfl⟩))
  go_ret2
  exact ⟨rfl, rfl⟩
theorem root_c (n s : Int) (w : World) (h0 : 1 ≤ n) (h1 : n ≤ 4611686018427387903) (hs : IsRt n s) : Calls Try.prog 12 #[.int .i64 n] w fun e w' => e = .returned (.tuple #[.int .i64 s, .bool true]) ∧ w = w' := by
  have hN : isN n = true := isN_t ⟨by omega, h1⟩
  obtain ⟨k, hk, hk31, hsk⟩ := start_ge hs h1 (by omega)
  obtain ⟨p1, p2⟩ := pow_le31 hk31
  have hb0 : 0 ≤ (Lib.bitLen n.toNat : Int) := by omega
  have hb : (Lib.bitLen n.toNat : Int) ≤ 62 := by have := bitLen_le n.toNat 62 (by omega); omega
  have hsh : ((Lib.bitLen n.toNat : Int) + 1) / 2 = (k : Int) := by omega
  have HS := Lib.hid hs
  have X1 : n ≤ 18446744073709551615 := by omega
  have X0 : 0 ≤ n := by omega
  have HW : Hid (s ≤ wrap64 (2 ^ k) ∧ 1 ≤ wrap64 (2 ^ k) ∧ wrap64 (2 ^ k) ≤ 2147483648) := by
    have e : ((2 ^ k : Nat) : Int) = (2 : Int) ^ k := by push_cast; rfl
    rw [e] at hsk p1 p2
    rw [w64_in (by omega) (by omega)]
    exact ⟨hsk, p1, p2⟩
  clear hs hk hsk p1 p2
  go_enter Try.func12, Try.ntmps12
  go_wp2_with (first | (go_at_call 29; (with_reducible refine (is_c n _).mono ?_); rintro e w' ⟨rfl, rfl⟩) | (go_at_call 34; (with_reducible refine (len_c n _ X0 X1).mono ?_); rintro e w' ⟨rfl, rfl⟩))
  clear hsh hb hb0
  go_loop [4] (fun v => ∃ r : Int, v = .int .i64 r ∧ 1 ≤ r ∧ r ≤ 2147483648 ∧ s ≤ r) (fun v => (intOf v).toNat)
  case atStart => exact ⟨_, rfl, HW.out.2.1, HW.out.2.2, HW.out.1⟩
  case round =>
    obtain ⟨r, rfl, r1, r2, r3⟩ := hrel
    obtain ⟨q0, q1⟩ := quo_bound X0 h1 r1
    have n1 := newton HS.out r1
    by_cases hc : r ≤ (r + n / r) / 2
    · have e := newton_end HS.out r1 r3 hc
      subst e
      go_wp2
      go_ret2
      exact ⟨rfl, rfl⟩
    · have hc' : (r + n / r) / 2 < r := by omega
      have s0 := HS.out.1
      have s1 : 1 ≤ (r + n / r) / 2 := by
        by_cases hz : s = 0
        · have := HS.out.2.2; rw [hz] at this; omega
        · omega
      clear hc
      go_wp2
      go_round
      case rel => exact ⟨_, rfl, s1, by omega, n1⟩
      case measure => simp [intOf]; omega

/-! ### the document's Root -/
theorem refRoot_no (n : Int) (w : World) (h : n < 0 ∨ isN n = false) : Calls Try.prog 13 #[.int .i64 n] w fun e w' => e = .returned (.tuple #[.int .i64 0, .bool false]) ∧ w = w' := by
  by_cases h0 : n < 0
  · clear h
    go_enter Try.func13, Try.ntmps13
    go_wp2_with (fail)
    go_ret2
    exact ⟨rfl, rfl⟩
  · have h1 : isN n = false := by rcases h with h | h; exact absurd h h0; exact h
    have h2 : 0 ≤ n := by omega
    clear h h0
    go_enter Try.func13, Try.ntmps13
    go_wp2_with (first | (go_at_call 32; (with_reducible refine (refIs_c n _).mono ?_); rintro e w' ⟨rfl, rfl⟩))
    go_ret2
    exact ⟨rfl, rfl⟩
/-- What holds at each round's head: the root lies from r on, below r + 2 b (at the end: below r + 1). -/
def Far (n r b : Int) : Prop := ∃ j : Nat, j ≤ 31 ∧ (2 ^ j : Int) = 2 * b + (if j = 0 then 1 else 0) ∧ r * r ≤ n ∧ n < (r + 2 ^ j) * (r + 2 ^ j) ∧ 0 ≤ r ∧ r + 2 ^ j ≤ 2147483648
theorem far_start {n : Int} (h0 : 0 ≤ n) (h1 : n ≤ 4611686018427387903) : Far n 0 1073741824 := ⟨31, by decide, by decide, by omega, by omega, by decide, by decide⟩
theorem far_end {n r : Int} (h : Far n r 0) : IsRt n r := by
  obtain ⟨j, _, hj, a, b, c, _⟩ := h
  have : j = 0 := by
    cases j with
    | zero => rfl
    | succ j => rw [Int.pow_succ] at hj; have := Int.pow_pos (n := 2) (m := j) (by decide); simp at hj; omega
  subst this
  exact ⟨c, a, by simpa using b⟩
theorem far_half {n r b : Int} (h : Far n r b) (hb : 0 < b) : 1 ≤ b ∧ b ≤ 1073741824 ∧ 0 ≤ r ∧ r + 2 * b ≤ 2147483648 ∧ 0 ≤ b / 2 ∧ b / 2 < b ∧
    ((r + b) * (r + b) ≤ n → Far n (r + b) (b / 2)) ∧ (¬ (r + b) * (r + b) ≤ n → Far n r (b / 2)) := by
  obtain ⟨j, hj31, hj, a, hn, c, d⟩ := h
  cases j with
  | zero => simp at hj; omega
  | succ j =>
    have hb2 : b = 2 ^ j := by rw [Int.pow_succ] at hj; simp at hj; omega
    have e2 : (2 : Int) ^ (j + 1) = 2 * b := by rw [Int.pow_succ, hb2]; omega
    have half : (2 : Int) ^ j = 2 * (b / 2) + (if j = 0 then 1 else 0) := by
      cases j with
      | zero => simp at hb2; subst hb2; decide
      | succ i => rw [hb2, Int.pow_succ]; simp; omega
    rw [e2] at hn d
    refine ⟨by omega, ?_, c, d, by omega, by omega, fun h => ⟨j, by omega, half, h, ?_, by omega, by omega⟩, fun h => ⟨j, by omega, half, a, ?_, c, by omega⟩⟩
    · omega
    · rw [← hb2]; have : r + b + b = r + 2 * b := by omega
      rw [this]; exact hn
    · rw [← hb2]; omega
theorem sq_small {x : Int} (h0 : 0 ≤ x) (h1 : x ≤ 2147483648) : 0 ≤ x * x ∧ x * x ≤ 4611686018427387904 := ⟨Int.mul_nonneg h0 h0, Int.mul_le_mul h1 h1 h0 (by decide)⟩
theorem refRoot_c (n s : Int) (w : World) (h0 : 0 ≤ n) (h1 : n ≤ 4611686018427387903) (hs : IsRt n s) : Calls Try.prog 13 #[.int .i64 n] w fun e w' => e = .returned (.tuple #[.int .i64 s, .bool true]) ∧ w = w' := by
  have hN : isN n = true := isN_t ⟨by omega, h1⟩
  have HS := Lib.hid hs
  have HF := Lib.hid (far_start h0 h1)
  clear hs
  go_enter Try.func13, Try.ntmps13
  go_wp2_with (first | (go_at_call 32; (with_reducible refine (refIs_c n _).mono ?_); rintro e w' ⟨rfl, rfl⟩))
  go_loop [4, 5] (fun u v => ∃ r b : Int, u = .int .i64 r ∧ v = .int .i64 b ∧ 0 ≤ b ∧ Hid (Far n r b)) (fun _ v => (intOf v).toNat)
  case atStart => exact ⟨0, 1073741824, rfl, rfl, by decide, HF⟩
  case round =>
    obtain ⟨r, b, rfl, rfl, b0, HX⟩ := hrel
    by_cases hb : 0 < b
    · obtain ⟨x1, x2, x3, x4, x5, x6, x7, x8⟩ := far_half HX.out hb
      obtain ⟨y0, y1⟩ := sq_small (x := r + b) (by omega) (by omega)
      have X7 := Lib.hid x7
      have X8 := Lib.hid x8
      clear x7 x8 HF
      by_cases hc : (r + b) * (r + b) ≤ n
      · go_wp2
        go_round
        case rel => exact ⟨_, _, rfl, rfl, x5, X7.out hc⟩
        case measure => simp [intOf]; omega
      · have hc' : n < (r + b) * (r + b) := by omega
        go_wp2
        go_round
        case rel => exact ⟨_, _, rfl, rfl, x5, X8.out hc⟩
        case measure => simp [intOf]; omega
    · obtain rfl : b = 0 := by omega
      have e := (far_end HX.out).uniq HS.out
      subst e
      go_wp2
      go_ret2
      exact ⟨rfl, rfl⟩
theorem walkNumRoots (n : Int) (w : World) (_ : (Lit.int .i64 n).wf = true) : Calls Try.prog 4 #[.int .i64 n] w fun e w' => e = .returned (.bool true) ∧ Below w.heap.size w w' := by
  by_cases h : n < 0 ∨ isN n = false
  · have H := Lib.hid h
    clear h
    go_enter Try.func4, Try.ntmps4
    go_wp2_with (first | (go_at_call 12; (with_reducible refine (root_no n _ H.out).mono ?_); rintro e w' ⟨rfl, rfl⟩) | (go_at_call 13; (with_reducible refine (refRoot_no n _ H.out).mono ?_); rintro e w' ⟨rfl, rfl⟩))
    go_ret
    exact ⟨rfl, Below.refl _ _⟩
  · have hn : isN n = true := by cases hb : isN n <;> simp_all
    have h0 : 0 ≤ n := by omega
    have h1 := (isN_of hn).2
    obtain ⟨s, hs⟩ := isRt_of h0
    have HS := Lib.hid hs
    have f1 : (s == s) = true := by simp
    clear h hs
    by_cases hz : n = 0
    · subst hz
      obtain rfl : s = 0 := HS.out.uniq ⟨by decide, by decide, by decide⟩
      go_enter Try.func4, Try.ntmps4
      go_wp2_with (first | (go_at_call 12; (with_reducible refine (root_zero _).mono ?_); rintro e w' ⟨rfl, rfl⟩) | (go_at_call 13; (with_reducible refine (refRoot_c 0 0 _ h0 h1 HS.out).mono ?_); rintro e w' ⟨rfl, rfl⟩))
      go_ret
      exact ⟨rfl, Below.refl _ _⟩
    · have h2 : 1 ≤ n := by omega
      go_enter Try.func4, Try.ntmps4
      go_wp2_with (first | (go_at_call 12; (with_reducible refine (root_c n s _ h2 h1 HS.out).mono ?_); rintro e w' ⟨rfl, rfl⟩) | (go_at_call 13; (with_reducible refine (refRoot_c n s _ h0 h1 HS.out).mono ?_); rintro e w' ⟨rfl, rfl⟩))
      go_ret
      exact ⟨rfl, Below.refl _ _⟩
end Go.Proofs.Ytdfjbghmeoephab.Roots
