/- NumSizes answers true for every int64: Abs in each kind is what the document says. -/
import Derived.Test.YtdfjbghmeoephaaPNumSizesx1
import Derived.Test.YtdfjbghmeoephaaAid
namespace Go.Proofs.Ytdfjbghmeoephaa.Pure
open Go.RowKit Go.Proofs.Ytdfjbghmeoephaa.PNumSizes Go.Proofs.YtdfjbghmeoephaaW.PrintWords Go.Proofs.YtdfjbghmeoephaaW.PrintLast
open Go.Proofs.Ytdfjbghmeoephaa.Aid

theorem least8 : cabstandref01_Least.f 100 8 = some (-128) := by decide +kernel
theorem least16 : cabstandref01_Least.f 100 16 = some (-32768) := by decide +kernel
theorem least32 : cabstandref01_Least.f 100 32 = some (-2147483648) := by decide +kernel
theorem least64 : cabstandref01_Least.f 100 64 = some (-9223372036854775808) := by decide +kernel
/-- What both tell, of a number of a kind whose least is m. -/
def absT (m x : Int) : Int × Bool := if x ≥ 0 then (x, true) else if x = m then (0, false) else (-x, true)
theorem ref8 (x : Int) (h : -128 ≤ x ∧ x ≤ 127) : cabstandref01_Abs.f 100 8 x = some (absT (-128) x) := by
  unfold cabstandref01_Abs.f absT
  rw [least8, w64_in (n := -x) (by omega) (by omega)]
  by_cases a : x ≥ 0 <;> by_cases b : x = -128 <;> simp [a, b]
theorem ref16 (x : Int) (h : -32768 ≤ x ∧ x ≤ 32767) : cabstandref01_Abs.f 100 16 x = some (absT (-32768) x) := by
  unfold cabstandref01_Abs.f absT
  rw [least16, w64_in (n := -x) (by omega) (by omega)]
  by_cases a : x ≥ 0 <;> by_cases b : x = -32768 <;> simp [a, b]
theorem ref32 (x : Int) (h : -2147483648 ≤ x ∧ x ≤ 2147483647) : cabstandref01_Abs.f 100 32 x = some (absT (-2147483648) x) := by
  unfold cabstandref01_Abs.f absT
  rw [least32, w64_in (n := -x) (by omega) (by omega)]
  by_cases a : x ≥ 0 <;> by_cases b : x = -2147483648 <;> simp [a, b]
theorem ref64 (x : Int) (h : -9223372036854775808 ≤ x ∧ x ≤ 9223372036854775807) : cabstandref01_Abs.f 100 64 x = some (absT (-9223372036854775808) x) := by
  unfold cabstandref01_Abs.f absT
  rw [least64]
  by_cases a : x ≥ 0
  · simp [a]
  · by_cases b : x = -9223372036854775808
    · simp [b]
    · rw [w64_in (n := -x) (by omega) (by omega)]
      simp [a, b]
theorem abs8 (x : Int) (h : -128 ≤ x ∧ x ≤ 127) : num_Abs_int8.f x = some (absT (-128) x) := by
  unfold num_Abs_int8.f absT
  by_cases a : x ≥ 0
  · simp [a]
  · by_cases b : x = -128
    · subst b; decide +kernel
    · have e : IntKind.i8.wrap (-x) = -x := by rw [i8_eq]; omega
      rw [e, if_neg a, if_neg (by omega), if_neg a, if_neg b]
theorem small (x : Int) : cabstandlaw01_Small.f x = num_Abs_int8.f x := rfl
theorem abs16 (x : Int) (h : -32768 ≤ x ∧ x ≤ 32767) : num_Abs_int16.f x = some (absT (-32768) x) := by
  unfold num_Abs_int16.f absT
  by_cases a : x ≥ 0
  · simp [a]
  · by_cases b : x = -32768
    · subst b; decide +kernel
    · have e : IntKind.i16.wrap (-x) = -x := by rw [i16_eq]; omega
      rw [e, if_neg a, if_neg (by omega), if_neg a, if_neg b]
theorem abs32 (x : Int) (h : -2147483648 ≤ x ∧ x ≤ 2147483647) : num_Abs_int32.f x = some (absT (-2147483648) x) := by
  unfold num_Abs_int32.f absT
  by_cases a : x ≥ 0
  · simp [a]
  · by_cases b : x = -2147483648
    · subst b; decide +kernel
    · have e : wrap32 (-x) = -x := by rw [w32_eq]; omega
      rw [e, if_neg a, if_neg (by omega), if_neg a, if_neg b]
theorem abs64 (x : Int) (h : -9223372036854775808 ≤ x ∧ x ≤ 9223372036854775807) : num_Abs_int64.f x = some (absT (-9223372036854775808) x) := by
  unfold num_Abs_int64.f absT
  by_cases a : x ≥ 0
  · simp [a]
  · by_cases b : x = -9223372036854775808
    · subst b; decide +kernel
    · have e : wrap64 (-x) = -x := w64_in (by omega) (by omega)
      rw [e, if_neg a, if_neg (by omega), if_neg a, if_neg b]
theorem absI (x : Int) : num_Abs_int.f x = num_Abs_int64.f x := rfl
theorem wide (x : Int) : cabstandlaw01_Wide.f x = num_Abs_int64.f x := rfl
theorem r8 (n : Int) : -128 ≤ IntKind.i8.wrap n ∧ IntKind.i8.wrap n ≤ 127 := by rw [i8_eq]; omega
theorem r16 (n : Int) : -32768 ≤ IntKind.i16.wrap n ∧ IntKind.i16.wrap n ≤ 32767 := by rw [i16_eq]; omega
theorem r32 (n : Int) : -2147483648 ≤ wrap32 n ∧ wrap32 n ≤ 2147483647 := by rw [w32_eq]; omega
theorem abs_in {m x : Int} (h : -9223372036854775807 ≤ x) (h' : x ≤ 9223372036854775807) : wrap64 (absT m x).1 = (absT m x).1 := by
  unfold absT
  split
  · exact w64_in (by omega) (by omega)
  · split
    · exact w64_in (by omega) (by omega)
    · exact w64_in (by omega) (by omega)

theorem NumSizes : cabstandlaw01_NumSizes.Pure := by
  intro x hx
  have hx := wf64 hx
  refine ⟨100, ?_⟩
  have a := r8 x
  have b := r16 x
  have c := r32 x
  unfold cabstandlaw01_NumSizes.f
  simp only [small, wide, absI, w64_i8, w64_i16, w64_w32, abs8 _ a, abs16 _ b, abs32 _ c, abs64 _ hx, ref8 _ a, ref16 _ b, ref32 _ c, ref64 _ hx, Option.bind_some]
  rw [abs_in (x := IntKind.i8.wrap x) (by omega) (by omega), abs_in (x := IntKind.i16.wrap x) (by omega) (by omega), abs_in (x := wrap32 x) (by omega) (by omega)]
  simp

end Go.Proofs.Ytdfjbghmeoephaa.Pure
