/- Contracts of Sum and of the document's Sum: what they tell of a list of numbers. -/
import Derived.Test.YtkpdomnmlinomabGreatIs
import Derived.Test.YtkpdomnmlinomabGreatMem
import Derived.LoopTactic
import Derived.Laws.Externs
namespace Go.Proofs.YtkpdomnmlinomabGreat.Sums
open Go.RowKit Go.Proofs.YtkpdomnmlinomabGreat.Aid Go.Proofs.YtkpdomnmlinomabGreat.Nums Go.Proofs.YtkpdomnmlinomabGreat.Mem
set_option linter.unusedSimpArgs false

theorem add64_run (x y : Int) (hx : 0 ≤ x) (hy : 0 ≤ y) (w : World) : (callFunc 167 #[.int .u64 x, .int .u64 y, .int .u64 0]).run Tryz.prog w =
    .ok (.value (.tuple #[.int .u64 ((x + y) % 18446744073709551616), .int .u64 ((x + y) / 18446744073709551616)])) w := by
  have h := run_callFunc_extern (P := Tryz.prog) (f := 167) (e := add64Entry) Tryz.func167 (by kernel_rfl) (by kernel_rfl) (by kernel_rfl) (by rfl) #[.int .u64 x, .int .u64 y, .int .u64 0] w
  rw [h, run_add64 x y 0 hx hy (by decide) (by decide)]
  simp [Result.andThen]
def sumB (xs : List Int) : Bool := xs.all isN && isN (tot xs)
def sumV (xs : List Int) : Int := if sumB xs = true then tot xs else 0
/-- 128 bits. -/
def Wide (hi lo t : Int) : Prop := 0 ≤ hi ∧ hi < 18446744073709551616 ∧ 0 ≤ lo ∧ lo < 18446744073709551616 ∧ lo + 18446744073709551616 * hi = t % 340282366920938463463374607431768211456

theorem wide_step {hi lo t x : Int} (h : Wide hi lo t) : Wide (IntKind.u64.wrap (hi + IntKind.u64.wrap ((lo + IntKind.u64.wrap x) / 18446744073709551616 + IntKind.u64.wrap (x / 9223372036854775808)))) ((lo + IntKind.u64.wrap x) % 18446744073709551616) (t + x) ∨ isN x = false := by
  by_cases hx : -4611686018427387903 ≤ x ∧ x ≤ 4611686018427387903
  · left
    obtain ⟨a, b, c, d, e⟩ := h
    unfold Wide
    simp only [u64_eq]
    by_cases h0 : x < 0
    · have e1 : x / 9223372036854775808 = -1 := by omega
      have e2 : x % 18446744073709551616 = x + 18446744073709551616 := by omega
      rw [e1, e2]
      omega
    · have e1 : x / 9223372036854775808 = 0 := by omega
      have e2 : x % 18446744073709551616 = x := by omega
      rw [e1, e2]
      omega
  · exact .inr (isN_f hx)
theorem tot_bound (xs : List Int) (h : xs.all isN = true) : -(xs.length * 4611686018427387903 : Int) ≤ tot xs ∧ tot xs ≤ xs.length * 4611686018427387903 := by
  induction xs with
  | nil => simp [tot]
  | cons x xs ih =>
    simp only [List.all_cons, Bool.and_eq_true] at h
    have h1 := isN_of h.1
    have h2 := ih h.2
    rw [tot_cons, List.length_cons]
    push_cast
    omega
theorem wide_end {hi lo t : Int} (h : Wide hi lo t) (hb : -170141183460469231731687303715884105728 ≤ t ∧ t < 170141183460469231731687303715884105728) :
    (isN t = true → wrap64 lo = t ∧ IntKind.u64.wrap (t / 9223372036854775808) = hi) ∧ (isN t = false → isN (wrap64 lo) = true → ¬ hi = IntKind.u64.wrap (wrap64 lo / 9223372036854775808)) := by
  obtain ⟨a, b, c, d, e⟩ := h
  constructor
  · intro ht
    have h1 := isN_of ht
    rw [w64_eq, u64_eq]
    omega
  · intro ht hs hh
    have h1 := isN_not ht
    have h2 := isN_of hs
    rw [u64_eq] at hh
    have h3 := w64_eq lo
    generalize wrap64 lo = s at *
    by_cases h0 : s < 0
    · have e1 : s / 9223372036854775808 = -1 := by omega
      rw [e1] at hh
      omega
    · have e1 : s / 9223372036854775808 = 0 := by omega
      rw [e1] at hh
      omega
theorem all_snoc {xs : List Int} {k : Nat} {x : Int} (h : xs[k]? = some x) (ha : (xs.take k).all isN = true) (hx : isN x = true) : (xs.take (k + 1)).all isN = true := by
  rw [take_snoc xs k x h, List.all_append, ha]; simp [hx]
theorem all_not {xs : List Int} {k : Nat} {x : Int} (h : xs[k]? = some x) (hx : isN x = false) : sumB xs = false := by
  have : xs.all isN = false := by
    rw [List.all_eq_false]
    exact ⟨x, List.mem_of_getElem? h, by simp [hx]⟩
  unfold sumB
  rw [this]; rfl
theorem sumV_f {xs : List Int} (h : sumB xs = false) : sumV xs = 0 := if_neg (by rw [h]; decide)

theorem sum_c (xs : List Int) (A : Option Addr) (n c : Nat) (w : World) (h : Ints w .i64 A n xs) (hn : n ≤ 1048576) :
    Calls Tryz.prog 113 #[.slice A n c] w fun e w' => e = .returned (.tuple #[.int .i64 (sumV xs), .bool (sumB xs)]) ∧ w = w' := by
  have H := Lib.hid h
  clear h
  go_enter Tryz.func113, Tryz.ntmps113
  go_wp2_with (fail)
  go_loop [4, 5, 12] (fun a b i => ∃ (k : Nat) (hi lo : Int), k ≤ n ∧ i = .int .i64 k ∧ a = .int .u64 hi ∧ b = .int .u64 lo ∧ Hid ((xs.take k).all isN = true) ∧ Hid (Wide hi lo (tot (xs.take k)))) (fun _ _ i => n - (intOf i).toNat)
  case atStart => exact ⟨0, 0, 0, Nat.zero_le _, rfl, rfl, rfl, by show _ = true; simp, by unfold Wide Hid tot; simp⟩
  case round =>
    obtain ⟨k, hi, lo, hk, rfl, rfl, rfl, HA, HW⟩ := hrel
    by_cases hlt : k < n
    · obtain ⟨ad, x, rfl, hx, hc⟩ := H.out.at_ hlt
      have HX := Lib.hid hx
      clear hx
      by_cases hnx : isN x = true
      · have lo0 : 0 ≤ lo := HW.out.2.2.1
        have hadd := add64_run lo (IntKind.u64.wrap x) lo0 (by rw [u64_eq]; omega)
        go_wp2_with (first | (go_at_call 164; (with_reducible refine (is_c x _).mono ?_); rintro e w' ⟨rfl, rfl⟩))
        go_round
        case rel =>
          refine ⟨k + 1, _, _, by omega, by go_num, rfl, rfl, all_snoc HX.out HA.out hnx, ?_⟩
          rw [tot_snoc xs k x HX.out]
          rcases wide_step (x := x) HW.out with h | h
          · exact h
          · rw [hnx] at h; cases h
        case measure => simp [intOf]; omega
      · have hnx' : isN x = false := by cases hb : isN x <;> simp_all
        have e1 := all_not HX.out hnx'
        have E2 := Lib.hid (sumV_f e1)
        have E1 := Lib.hid e1
        clear e1 hnx
        go_wp2_with (first | (go_at_call 164; (with_reducible refine (is_c x _).mono ?_); rintro e w' ⟨rfl, rfl⟩))
        go_ret2
        exact ⟨by rw [E1.out, E2.out]; rfl, rfl⟩
    · obtain rfl : k = n := by omega
      have ht : xs.take k = xs := List.take_of_length_le (by have := H.out.1; omega)
      rw [ht] at HA HW
      have hb := tot_bound xs HA.out
      have hl := H.out.1
      obtain ⟨w1, w2⟩ := wide_end HW.out (by omega)
      by_cases hT : isN (tot xs) = true
      · obtain ⟨f1, f2⟩ := w1 hT
        have e1 : sumB xs = true := by unfold sumB; rw [HA.out, hT]; rfl
        have E2 := Lib.hid (show sumV xs = tot xs from if_pos e1)
        have E1 := Lib.hid e1
        have f3 : (hi != IntKind.u64.wrap (tot xs / 9223372036854775808)) = false := by rw [f2]; simp
        clear e1 w1 w2 hb ht hl f2
        go_wp2_with (first | (go_at_call 164; (with_reducible refine (is_c (tot xs) _).mono ?_); rintro e w' ⟨rfl, rfl⟩))
        go_ret2
        exact ⟨by rw [E1.out, E2.out]; first | rfl | (simp [f1]; done), rfl⟩
      · have hT' : isN (tot xs) = false := by cases hb : isN (tot xs) <;> simp_all
        have e1 : sumB xs = false := by unfold sumB; rw [hT']; simp
        have E2 := Lib.hid (sumV_f e1)
        have E1 := Lib.hid e1
        by_cases hs : isN (wrap64 lo) = true
        · have f3 : (hi != IntKind.u64.wrap (wrap64 lo / 9223372036854775808)) = true := by simpa using w2 hT' hs
          clear e1 w1 w2 hb ht hl hT hT'
          go_wp2_with (first | (go_at_call 164; (with_reducible refine (is_c (wrap64 lo) _).mono ?_); rintro e w' ⟨rfl, rfl⟩))
          go_ret2
          exact ⟨by rw [E1.out, E2.out]; rfl, rfl⟩
        · have hs' : isN (wrap64 lo) = false := by cases hb : isN (wrap64 lo) <;> simp_all
          clear e1 w1 w2 hb ht hl hT hT' hs
          go_wp2_with (first | (go_at_call 164; (with_reducible refine (is_c (wrap64 lo) _).mono ?_); rintro e w' ⟨rfl, rfl⟩))
          go_ret2
          exact ⟨by rw [E1.out, E2.out]; rfl, rfl⟩
end Go.Proofs.YtkpdomnmlinomabGreat.Sums
