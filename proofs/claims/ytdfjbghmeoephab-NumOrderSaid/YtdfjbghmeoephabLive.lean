/- Contracts of Add, Sub, Floor, and of Abs, Clamp, Fit at the kinds that the outright statements ask; what 'alive' asks. -/
import Derived.Test.YtdfjbghmeoephabNums
import Derived.Test.YtdfjbghmeoephabRoots
import Derived.Test.YtdfjbghmeoephabSums
import Derived.Test.YtdfjbghmeoephabTwin
import Derived.Deep.QuietTactic
import Derived.BigQuiet
namespace Go.Proofs.Ytdfjbghmeoephab.Live
open Go.RowKit Go.Proofs.Ytdfjbghmeoephab.Aid Go.Proofs.Ytdfjbghmeoephab.Nums Go.Proofs.Ytdfjbghmeoephab.Roots Go.Proofs.Ytdfjbghmeoephab.Mem Go.Proofs.Ytdfjbghmeoephab.Sums
set_option linter.unusedSimpArgs false

def addB (a b : Int) : Bool := isN a && isN b && isN (a + b)
def addV (a b : Int) : Int := if addB a b = true then a + b else 0
theorem add_c (a b : Int) (w : World) : Calls Try.prog 14 #[.int .i64 a, .int .i64 b] w fun e w' => e = .returned (.tuple #[.int .i64 (addV a b), .bool (addB a b)]) ∧ w = w' := by
  by_cases ha : isN a = true
  · by_cases hb : isN b = true
    · have h1 := isN_of ha
      have h2 := isN_of hb
      have hs : wrap64 (a + b) = a + b := w64_in (by omega) (by omega)
      by_cases hc : isN (a + b) = true
      · have e1 : addB a b = true := by unfold addB; rw [ha, hb, hc]; rfl
        have e2 : addV a b = a + b := if_pos e1
        rw [e1, e2]
        clear e1 e2 hs
        go_enter Try.func14, Try.ntmps14
        go_wp2_with (first | (go_at_call 29; (with_reducible refine (is_c a _).mono ?_); rintro e w' ⟨rfl, rfl⟩) | (go_at_call 29; (with_reducible refine (is_c b _).mono ?_); rintro e w' ⟨rfl, rfl⟩) | (go_at_call 29; (with_reducible refine (is_c (a + b) _).mono ?_); rintro e w' ⟨rfl, rfl⟩))
        go_ret2
        exact ⟨rfl, rfl⟩
      · have hc' : isN (a + b) = false := by cases h : isN (a + b) <;> simp_all
        have e1 : addB a b = false := by unfold addB; rw [hc']; simp
        have e2 : addV a b = 0 := if_neg (by rw [e1]; decide)
        rw [e1, e2]
        clear e1 e2 hs hc
        go_enter Try.func14, Try.ntmps14
        go_wp2_with (first | (go_at_call 29; (with_reducible refine (is_c a _).mono ?_); rintro e w' ⟨rfl, rfl⟩) | (go_at_call 29; (with_reducible refine (is_c b _).mono ?_); rintro e w' ⟨rfl, rfl⟩) | (go_at_call 29; (with_reducible refine (is_c (a + b) _).mono ?_); rintro e w' ⟨rfl, rfl⟩))
        go_ret2
        exact ⟨rfl, rfl⟩
    · have hb' : isN b = false := by cases h : isN b <;> simp_all
      have e1 : addB a b = false := by unfold addB; rw [hb']; simp
      have e2 : addV a b = 0 := if_neg (by rw [e1]; decide)
      rw [e1, e2]
      clear e1 e2 hb
      go_enter Try.func14, Try.ntmps14
      go_wp2_with (first | (go_at_call 29; (with_reducible refine (is_c a _).mono ?_); rintro e w' ⟨rfl, rfl⟩) | (go_at_call 29; (with_reducible refine (is_c b _).mono ?_); rintro e w' ⟨rfl, rfl⟩))
      go_ret2
      exact ⟨rfl, rfl⟩
  · have ha' : isN a = false := by cases h : isN a <;> simp_all
    have e1 : addB a b = false := by unfold addB; rw [ha']; simp
    have e2 : addV a b = 0 := if_neg (by rw [e1]; decide)
    rw [e1, e2]
    clear e1 e2 ha
    go_enter Try.func14, Try.ntmps14
    go_wp2_with (first | (go_at_call 29; (with_reducible refine (is_c a _).mono ?_); rintro e w' ⟨rfl, rfl⟩))
    go_ret2
    exact ⟨rfl, rfl⟩
def subB (a b : Int) : Bool := isN a && isN b && isN (a - b)
def subV (a b : Int) : Int := if subB a b = true then a - b else 0
theorem sub_c (a b : Int) (w : World) : Calls Try.prog 17 #[.int .i64 a, .int .i64 b] w fun e w' => e = .returned (.tuple #[.int .i64 (subV a b), .bool (subB a b)]) ∧ w = w' := by
  by_cases ha : isN a = true
  · by_cases hb : isN b = true
    · have h1 := isN_of ha
      have h2 := isN_of hb
      by_cases hc : isN (a - b) = true
      · have e1 : subB a b = true := by unfold subB; rw [ha, hb, hc]; rfl
        have e2 : subV a b = a - b := if_pos e1
        rw [e1, e2]
        clear e1 e2
        go_enter Try.func17, Try.ntmps17
        go_wp2_with (first | (go_at_call 29; (with_reducible refine (is_c a _).mono ?_); rintro e w' ⟨rfl, rfl⟩) | (go_at_call 29; (with_reducible refine (is_c b _).mono ?_); rintro e w' ⟨rfl, rfl⟩) | (go_at_call 29; (with_reducible refine (is_c (a - b) _).mono ?_); rintro e w' ⟨rfl, rfl⟩))
        go_ret2
        exact ⟨rfl, rfl⟩
      · have hc' : isN (a - b) = false := by cases h : isN (a - b) <;> simp_all
        have e1 : subB a b = false := by unfold subB; rw [hc']; simp
        have e2 : subV a b = 0 := if_neg (by rw [e1]; decide)
        rw [e1, e2]
        clear e1 e2 hc
        go_enter Try.func17, Try.ntmps17
        go_wp2_with (first | (go_at_call 29; (with_reducible refine (is_c a _).mono ?_); rintro e w' ⟨rfl, rfl⟩) | (go_at_call 29; (with_reducible refine (is_c b _).mono ?_); rintro e w' ⟨rfl, rfl⟩) | (go_at_call 29; (with_reducible refine (is_c (a - b) _).mono ?_); rintro e w' ⟨rfl, rfl⟩))
        go_ret2
        exact ⟨rfl, rfl⟩
    · have hb' : isN b = false := by cases h : isN b <;> simp_all
      have e1 : subB a b = false := by unfold subB; rw [hb']; simp
      have e2 : subV a b = 0 := if_neg (by rw [e1]; decide)
      rw [e1, e2]
      clear e1 e2 hb
      go_enter Try.func17, Try.ntmps17
      go_wp2_with (first | (go_at_call 29; (with_reducible refine (is_c a _).mono ?_); rintro e w' ⟨rfl, rfl⟩) | (go_at_call 29; (with_reducible refine (is_c b _).mono ?_); rintro e w' ⟨rfl, rfl⟩))
      go_ret2
      exact ⟨rfl, rfl⟩
  · have ha' : isN a = false := by cases h : isN a <;> simp_all
    have e1 : subB a b = false := by unfold subB; rw [ha']; simp
    have e2 : subV a b = 0 := if_neg (by rw [e1]; decide)
    rw [e1, e2]
    clear e1 e2 ha
    go_enter Try.func17, Try.ntmps17
    go_wp2_with (first | (go_at_call 29; (with_reducible refine (is_c a _).mono ?_); rintro e w' ⟨rfl, rfl⟩))
    go_ret2
    exact ⟨rfl, rfl⟩

/-! ### Floor -/
def FloorIs (a b q r : Int) : Prop := a = q * b + r ∧ (0 < b → 0 ≤ r ∧ r < b) ∧ (b < 0 → b < r ∧ r ≤ 0)
theorem FloorIs.uniq {a b q r q' r' : Int} (hb : b ≠ 0) (h : FloorIs a b q r) (k : FloorIs a b q' r') : q = q' ∧ r = r' := by
  obtain ⟨e, p, n⟩ := h
  obtain ⟨e', p', n'⟩ := k
  have key : q = q' := by
    rcases Int.lt_trichotomy q q' with h | h | h
    · obtain ⟨d, rfl⟩ : ∃ d, q' = q + 1 + d := ⟨q' - q - 1, by omega⟩
      have hd : 0 ≤ d := by omega
      have e2 : (q + 1 + d) * b = q * b + b + d * b := by grind
      rw [e2] at e'
      rcases Int.lt_trichotomy b 0 with hb | hb | hb
      · have := Int.mul_nonpos_of_nonneg_of_nonpos hd (show b ≤ 0 by omega)
        have := n hb; have := n' hb; omega
      · omega
      · have := Int.mul_nonneg hd (show 0 ≤ b by omega)
        have := p hb; have := p' hb; omega
    · exact h
    · obtain ⟨d, rfl⟩ : ∃ d, q = q' + 1 + d := ⟨q - q' - 1, by omega⟩
      have hd : 0 ≤ d := by omega
      have e2 : (q' + 1 + d) * b = q' * b + b + d * b := by grind
      rw [e2] at e
      rcases Int.lt_trichotomy b 0 with hb | hb | hb
      · have := Int.mul_nonpos_of_nonneg_of_nonpos hd (show b ≤ 0 by omega)
        have := n hb; have := n' hb; omega
      · omega
      · have := Int.mul_nonneg hd (show 0 ≤ b by omega)
        have := p hb; have := p' hb; omega
  subst key
  exact ⟨rfl, by omega⟩
theorem tdiv_small {a b : Int} (ha : -4611686018427387903 ≤ a ∧ a ≤ 4611686018427387903) : -4611686018427387903 ≤ Int.tdiv a b ∧ Int.tdiv a b ≤ 4611686018427387903 := by
  have h : (Int.tdiv a b).natAbs ≤ a.natAbs := by
    rw [Int.natAbs_tdiv]
    exact Nat.div_le_self _ _
  omega
theorem tmod_small {a b : Int} (hb : b ≠ 0) : (Int.tmod a b).natAbs < b.natAbs := by
  rw [Int.natAbs_tmod]
  exact Nat.mod_lt _ (by omega)
theorem floor_is (a b : Int) (hb : b ≠ 0) : ∃ q r, FloorIs a b q r := by
  have h1 := Int.mul_tdiv_add_tmod a b
  have h2 := tmod_small (a := a) hb
  have e : Int.tdiv a b * b = b * Int.tdiv a b := Int.mul_comm _ _
  have e' : (Int.tdiv a b - 1) * b = b * Int.tdiv a b - b := by grind
  generalize Int.tmod a b = R at *
  generalize Int.tdiv a b = T at *
  by_cases hc : (0 < R ∧ b < 0) ∨ (R < 0 ∧ 0 < b)
  · exact ⟨T - 1, R + b, by omega, by omega, by omega⟩
  · exact ⟨T, R, by omega, by omega, by omega⟩
theorem ret_iiB {a a' b b' : Int} {c : Bool} (h : a = a') (h' : b = b') : Ending.returned (.tuple #[.int .i64 a, .int .i64 b, .bool c]) = Ending.returned (.tuple #[.int .i64 a', .int .i64 b', .bool c]) := by rw [h, h']
theorem floor_c (a b q r : Int) (w : World) (ha : isN a = true) (hb : isN b = true) (h0 : b ≠ 0) (h : FloorIs a b q r) :
    Calls Try.prog 21 #[.int .i64 a, .int .i64 b] w fun e w' => e = .returned (.tuple #[.int .i64 q, .int .i64 r, .bool true]) ∧ Dr w w' := by
  have h1 := Int.mul_tdiv_add_tmod a b
  have h2 := tmod_small (a := a) h0
  have e : Int.tdiv a b * b = b * Int.tdiv a b := Int.mul_comm _ _
  have e' : (Int.tdiv a b - 1) * b = b * Int.tdiv a b - b := by grind
  have hT := tdiv_small (b := b) (isN_of ha)
  have hB := isN_of hb
  have hz : (b == 0) = false := by simpa using h0
  obtain ⟨T, et⟩ : ∃ T, Int.tdiv a b = T := ⟨_, rfl⟩
  obtain ⟨R, er⟩ : ∃ R, Int.tmod a b = R := ⟨_, rfl⟩
  rw [et, er] at h1
  rw [er] at h2
  rw [et] at e e' hT
  have hR : -4611686018427387903 ≤ R ∧ R ≤ 4611686018427387903 := by omega
  have hw : IntKind.i64.wrap T = T := (IntKind.wrap_i64 _).trans (by omega)
  by_cases hc : (0 < R ∧ b < 0) ∨ (R < 0 ∧ 0 < b)
  · obtain ⟨u1, u2⟩ := h.uniq h0 (show FloorIs a b (T - 1) (R + b) from ⟨by omega, by omega, by omega⟩)
    have HU := Lib.hid (And.intro u1 u2)
    clear u1 u2 h1 h2 e e' h
    obtain ⟨t1, t2⟩ := hT
    obtain ⟨b1, b2⟩ := hB
    obtain ⟨r1, r2⟩ := hR
    have hr0 : (R != 0) = true := by simp; omega
    rcases hc with ⟨c1, c2⟩ | ⟨c1, c2⟩
    · have d1 : decide (R < 0) = false := decide_eq_false (by omega)
      have d2 : decide (b < 0) = true := decide_eq_true c2
      go_enter Try.func21, Try.ntmps21
      go_wp2_with (first | (go_at_call 29; (with_reducible refine (is_c a _).mono ?_); rintro e w' ⟨rfl, rfl⟩) | (go_at_call 29; (with_reducible refine (is_c b _).mono ?_); rintro e w' ⟨rfl, rfl⟩))
      go_quiet (fail)
      go_wp2
      go_ret3
      exact ⟨ret_iiB (by have := HU.out; omega) (by have := HU.out; omega), _, rfl⟩
    · have d1 : decide (R < 0) = true := decide_eq_true c1
      have d2 : decide (b < 0) = false := decide_eq_false (by omega)
      go_enter Try.func21, Try.ntmps21
      go_wp2_with (first | (go_at_call 29; (with_reducible refine (is_c a _).mono ?_); rintro e w' ⟨rfl, rfl⟩) | (go_at_call 29; (with_reducible refine (is_c b _).mono ?_); rintro e w' ⟨rfl, rfl⟩))
      go_quiet (fail)
      go_wp2
      go_ret3
      exact ⟨ret_iiB (by have := HU.out; omega) (by have := HU.out; omega), _, rfl⟩
  · obtain ⟨u1, u2⟩ := h.uniq h0 (show FloorIs a b T R from ⟨by omega, by omega, by omega⟩)
    have HU := Lib.hid (And.intro u1 u2)
    clear u1 u2 h1 h2 e e' h
    obtain ⟨t1, t2⟩ := hT
    obtain ⟨b1, b2⟩ := hB
    obtain ⟨r1, r2⟩ := hR
    by_cases hr : R = 0
    · subst hr
      go_enter Try.func21, Try.ntmps21
      go_wp2_with (first | (go_at_call 29; (with_reducible refine (is_c a _).mono ?_); rintro e w' ⟨rfl, rfl⟩) | (go_at_call 29; (with_reducible refine (is_c b _).mono ?_); rintro e w' ⟨rfl, rfl⟩))
      go_quiet (fail)
      go_wp2
      go_ret3
      exact ⟨ret_iiB (by have := HU.out; omega) (by have := HU.out; omega), _, rfl⟩
    · have hr0 : (R != 0) = true := by simpa using hr
      by_cases c1 : R < 0
      · have d1 : decide (R < 0) = true := decide_eq_true c1
        have d2 : decide (b < 0) = true := decide_eq_true (by omega)
        clear hc hr
        go_enter Try.func21, Try.ntmps21
        go_wp2_with (first | (go_at_call 29; (with_reducible refine (is_c a _).mono ?_); rintro e w' ⟨rfl, rfl⟩) | (go_at_call 29; (with_reducible refine (is_c b _).mono ?_); rintro e w' ⟨rfl, rfl⟩))
        go_quiet (fail)
        go_wp2
        go_ret3
        exact ⟨ret_iiB (by have := HU.out; omega) (by have := HU.out; omega), _, rfl⟩
      · have d1 : decide (R < 0) = false := decide_eq_false c1
        have d2 : decide (b < 0) = false := decide_eq_false (by omega)
        clear hc hr
        go_enter Try.func21, Try.ntmps21
        go_wp2_with (first | (go_at_call 29; (with_reducible refine (is_c a _).mono ?_); rintro e w' ⟨rfl, rfl⟩) | (go_at_call 29; (with_reducible refine (is_c b _).mono ?_); rintro e w' ⟨rfl, rfl⟩))
        go_quiet (fail)
        go_wp2
        go_ret3
        exact ⟨ret_iiB (by have := HU.out; omega) (by have := HU.out; omega), _, rfl⟩
theorem floor_no (a b : Int) (w : World) (h : isN a = false ∨ isN b = false ∨ b = 0) :
    Calls Try.prog 21 #[.int .i64 a, .int .i64 b] w fun e w' => e = .returned (.tuple #[.int .i64 0, .int .i64 0, .bool false]) ∧ w = w' := by
  by_cases ha : isN a = true
  · by_cases hb : isN b = true
    · obtain rfl : b = 0 := by rcases h with h | h | h <;> simp_all
      clear h
      go_enter Try.func21, Try.ntmps21
      go_wp2_with (first | (go_at_call 29; (with_reducible refine (is_c a _).mono ?_); rintro e w' ⟨rfl, rfl⟩) | (go_at_call 29; (with_reducible refine (is_c 0 _).mono ?_); rintro e w' ⟨rfl, rfl⟩))
      go_ret3
      exact ⟨rfl, rfl⟩
    · have hb' : isN b = false := by cases h : isN b <;> simp_all
      clear h hb
      go_enter Try.func21, Try.ntmps21
      go_wp2_with (first | (go_at_call 29; (with_reducible refine (is_c a _).mono ?_); rintro e w' ⟨rfl, rfl⟩) | (go_at_call 29; (with_reducible refine (is_c b _).mono ?_); rintro e w' ⟨rfl, rfl⟩))
      go_ret3
      exact ⟨rfl, rfl⟩
  · have ha' : isN a = false := by cases h : isN a <;> simp_all
    clear h ha
    go_enter Try.func21, Try.ntmps21
    go_wp2_with (first | (go_at_call 29; (with_reducible refine (is_c a _).mono ?_); rintro e w' ⟨rfl, rfl⟩))
    go_ret3
    exact ⟨rfl, rfl⟩

/-! ### Fit, Abs, Clamp at some kinds -/
theorem fit8_7 (w : World) : Calls Try.prog 35 #[.int .i64 7] w fun e w' => e = .returned (.tuple #[.int .i8 7, .bool true]) ∧ w = w' := by
  go_enter Try.func35, Try.ntmps35
  go_wp2
  go_ret2
  exact ⟨rfl, rfl⟩
theorem abs8_7 (w : World) : Calls Try.prog 36 #[.int .i8 (-7)] w fun e w' => e = .returned (.tuple #[.int .i8 7, .bool true]) ∧ w = w' := by
  go_enter Try.func36, Try.ntmps36
  go_wp2
  go_ret2
  exact ⟨rfl, rfl⟩
theorem clamp_513 (w : World) : Calls Try.prog 37 #[.int .i64 5, .int .i64 1, .int .i64 3] w fun e w' => e = .returned (.int .i64 3) ∧ w = w' := by
  go_enter Try.func37, Try.ntmps37
  go_wp2
  go_ret
  exact ⟨rfl, rfl⟩
theorem add_23 (w : World) : Calls Try.prog 14 #[.int .i64 2, .int .i64 3] w fun e w' => e = .returned (.tuple #[.int .i64 5, .bool true]) ∧ w = w' := add_c 2 3 w
theorem sub_23 (w : World) : Calls Try.prog 17 #[.int .i64 2, .int .i64 3] w fun e w' => e = .returned (.tuple #[.int .i64 (-1), .bool true]) ∧ w = w' := sub_c 2 3 w
theorem mul_23 (w : World) : Calls Try.prog 10 #[.int .i64 2, .int .i64 3] w fun e w' => e = .returned (.tuple #[.int .i64 6, .bool true]) ∧ w = w' := mul_c 2 3 w
theorem floor_72 (w : World) : Calls Try.prog 21 #[.int .i64 7, .int .i64 2] w fun e w' => e = .returned (.tuple #[.int .i64 3, .int .i64 1, .bool true]) ∧ Dr w w' := floor_c 7 2 3 1 w rfl rfl (by decide) ⟨by decide, by decide, by decide⟩
theorem root_25 (w : World) : Calls Try.prog 12 #[.int .i64 25] w fun e w' => e = .returned (.tuple #[.int .i64 5, .bool true]) ∧ w = w' := root_c 25 5 w (by decide) (by decide) ⟨by decide, by decide, by decide⟩
theorem sum_123 (A : Option Addr) (c : Nat) (w : World) (h : Ints w .i64 A 3 [1, 2, 3]) : Calls Try.prog 19 #[.slice A 3 c] w fun e w' => e = .returned (.tuple #[.int .i64 6, .bool true]) ∧ w = w' := sum_c [1, 2, 3] A 3 c w h (by decide)
set_option maxHeartbeats 1000000 in
/-- What 'alive' asks is so. -/
theorem alive_c (w : World) : Calls Try.prog 15 #[] w fun e w' => e = .returned (.bool true) ∧ Below w.heap.size w w' := by
  have hI : Ints (w.alloc (.cells #[.int .i64 1, .int .i64 2, .int .i64 3] 3)) .i64 (some ⟨w.heap.size, 0, none⟩) 3 [1, 2, 3] :=
    Ints.of_blk (Blk.new w 3 [.int .i64 1, .int .i64 2, .int .i64 3]) (by intro j x hx; match j with | 0 => simpa using hx | 1 => simpa using hx | 2 => simpa using hx | j + 3 => simp at hx)
  have HI := Lib.hid hI
  clear hI
  go_enter Try.func15, Try.ntmps15
  go_wp2_with (first | (go_at_call 14; (with_reducible refine (add_23 _).mono ?_); rintro e w' ⟨rfl, rfl⟩) | (go_at_call 10; (with_reducible refine (mul_23 _).mono ?_); rintro e w' ⟨rfl, rfl⟩) | (go_at_call 17; (with_reducible refine (sub_23 _).mono ?_); rintro e w' ⟨rfl, rfl⟩) | (go_at_call 19; (with_reducible refine (sum_123 _ _ _ HI.out).mono ?_); rintro e w' ⟨rfl, rfl⟩) | (go_at_call 21; (with_reducible refine (floor_72 _).mono ?_); rintro e w' ⟨rfl, nd, rfl⟩) | (go_at_call 12; (with_reducible refine (root_25 _).mono ?_); rintro e w' ⟨rfl, rfl⟩) | (go_at_call 35; (with_reducible refine (fit8_7 _).mono ?_); rintro e w' ⟨rfl, rfl⟩) | (go_at_call 36; (with_reducible refine (abs8_7 _).mono ?_); rintro e w' ⟨rfl, rfl⟩) | (go_at_call 37; (with_reducible refine (clamp_513 _).mono ?_); rintro e w' ⟨rfl, rfl⟩))
  go_ret
  exact ⟨rfl, below_drewN ((Below.refl _ _).alloc (Nat.le_refl _) _) _⟩
end Go.Proofs.Ytdfjbghmeoephab.Live
