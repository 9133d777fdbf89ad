/- Contracts of Sum and of the document's Sum: what they tell of a list of numbers. -/
import Derived.Test.YtbplgjocammnbaaGreatIs
import Derived.Test.YtbplgjocammnbaaGreatMem
import Derived.LoopTactic
import Derived.Laws.Externs
namespace Go.Proofs.YtbplgjocammnbaaGreat.Sums
open Go.RowKit Go.Proofs.YtbplgjocammnbaaGreat.Aid Go.Proofs.YtbplgjocammnbaaGreat.Nums Go.Proofs.YtbplgjocammnbaaGreat.Mem
set_option linter.unusedSimpArgs false

theorem add64_run (x y : Int) (hx : 0 ≤ x) (hy : 0 ≤ y) (w : World) : (callFunc 154 #[.int .u64 x, .int .u64 y, .int .u64 0]).run Tryz.prog w =
    .ok (.value (.tuple #[.int .u64 ((x + y) % 18446744073709551616), .int .u64 ((x + y) / 18446744073709551616)])) w := by
  have h := run_callFunc_extern (P := Tryz.prog) (f := 154) (e := add64Entry) Tryz.func154 (by kernel_rfl) (by kernel_rfl) (by kernel_rfl) (by rfl) #[.int .u64 x, .int .u64 y, .int .u64 0] w
  rw [h, run_add64 x y 0 hx hy (by decide) (by decide)]
  simp [Result.andThen]
def sumB (xs : List Int) : Bool := xs.all isN && isN (tot xs)
def sumV (xs : List Int) : Int := if sumB xs = true then tot xs else 0
/-- 128 bits. -/
def Wide (hi lo t : Int) : Prop := 0 ≤ hi ∧ hi < 18446744073709551616 ∧ 0 ≤ lo ∧ lo < 18446744073709551616 ∧ lo + 18446744073709551616 * hi = t % 340282366920938463463374607431768211456

theorem wide_step {hi lo t x : Int} (h : Wide hi lo t) : Wide (IntKind.u64.wrap (hi + IntKind.u64.wrap ((lo + IntKind.u64.wrap x) / 18446744073709551616 + IntKind.u64.wrap (x / 9223372036854775808)))) ((lo + IntKind.u64.wrap x) % 18446744073709551616) (t + x) ∨ isN x = false := by
  by_cases hx : -4611686018427387903 ≤ x ∧ x ≤ 4611686018427387903
  · left
    obtain ⟨a, b, c, d, e⟩ := h
    unfold Wide
    simp only [u64_eq]
    by_cases h0 : x < 0
    · have e1 : x / 9223372036854775808 = -1 := by omega
      have e2 : x % 18446744073709551616 = x + 18446744073709551616 := by omega
      rw [e1, e2]
      omega
    · have e1 : x / 9223372036854775808 = 0 := by omega
      have e2 : x % 18446744073709551616 = x := by omega
      rw [e1, e2]
      omega
  · exact .inr (isN_f hx)
theorem tot_bound (xs : List Int) (h : xs.all isN = true) : -(xs.length * 4611686018427387903 : Int) ≤ tot xs ∧ tot xs ≤ xs.length * 4611686018427387903 := by
  induction xs with
  | nil => simp [tot]
  | cons x xs ih =>
    simp only [List.all_cons, Bool.and_eq_true] at h
    have h1 := isN_of h.1
    have h2 := ih h.2
    rw [tot_cons, List.length_cons]
    push_cast
    omega
theorem wide_end {hi lo t : Int} (h : Wide hi lo t) (hb : -170141183460469231731687303715884105728 ≤ t ∧ t < 170141183460469231731687303715884105728) :
    (isN t = true → wrap64 lo = t ∧ IntKind.u64.wrap (t / 9223372036854775808) = hi) ∧ (isN t = false → isN (wrap64 lo) = true → ¬ hi = IntKind.u64.wrap (wrap64 lo / 9223372036854775808)) := by
  obtain ⟨a, b, c, d, e⟩ := h
  constructor
  · intro ht
    have h1 := isN_of ht
    rw [w64_eq, u64_eq]
    omega
  · intro ht hs hh
    have h1 := isN_not ht
    have h2 := isN_of hs
    rw [u64_eq] at hh
    have h3 := w64_eq lo
    generalize wrap64 lo = s at *
    by_cases h0 : s < 0
    · have e1 : s / 9223372036854775808 = -1 := by omega
      rw [e1] at hh
      omega
    · have e1 : s / 9223372036854775808 = 0 := by omega
      rw [e1] at hh
      omega
theorem all_snoc {xs : List Int} {k : Nat} {x : Int} (h : xs[k]? = some x) (ha : (xs.take k).all isN = true) (hx : isN x = true) : (xs.take (k + 1)).all isN = true := by
  rw [take_snoc xs k x h, List.all_append, ha]; simp [hx]
theorem all_not {xs : List Int} {k : Nat} {x : Int} (h : xs[k]? = some x) (hx : isN x = false) : sumB xs = false := by
  have : xs.all isN = false := by
    rw [List.all_eq_false]
    exact ⟨x, List.mem_of_getElem? h, by simp [hx]⟩
  unfold sumB
  rw [this]; rfl
theorem sumV_f {xs : List Int} (h : sumB xs = false) : sumV xs = 0 := if_neg (by rw [h]; decide)

end Go.Proofs.YtbplgjocammnbaaGreat.Sums
