/- NumClamps answers true for all three int64: Clamp in each kind is what the document says. -/
import Derived.Test.YtdfjbghmeoephaaPNumClampsx1
import Derived.Test.YtdfjbghmeoephaaAid
namespace Go.Proofs.Ytdfjbghmeoephaa.Pure
open Go.RowKit Go.Proofs.Ytdfjbghmeoephaa.PNumClamps Go.Proofs.YtdfjbghmeoephaaW.PrintWords Go.Proofs.YtdfjbghmeoephaaW.PrintLast
open Go.Proofs.Ytdfjbghmeoephaa.Aid

theorem ref_clamp (x l h : Int) : cabstandref01_Clamp.f 1 x l h = some (mx (mn x h) l) := by
  unfold cabstandref01_Clamp.f
  simp only [cabstandref01_Clamp.j0, mx, mn]
  by_cases h1 : h < l <;> by_cases h2 : x < l <;> by_cases h3 : h < x <;> simp [h1, h2, h3] <;> omega
theorem clamp_in (lo hi : Int) {x l h : Int} (hx : lo ≤ x ∧ x ≤ hi) (hl : lo ≤ l ∧ l ≤ hi) (hh : lo ≤ h ∧ h ≤ hi) : lo ≤ mx (mn x h) l ∧ mx (mn x h) l ≤ hi := by
  unfold mx mn
  split <;> split <;> omega
theorem r8 (n : Int) : -128 ≤ IntKind.i8.wrap n ∧ IntKind.i8.wrap n ≤ 127 := by rw [i8_eq]; omega
theorem r16 (n : Int) : -32768 ≤ IntKind.i16.wrap n ∧ IntKind.i16.wrap n ≤ 32767 := by rw [i16_eq]; omega
theorem r32 (n : Int) : -2147483648 ≤ wrap32 n ∧ wrap32 n ≤ 2147483647 := by rw [w32_eq]; omega

theorem NumClamps : cabstandlaw01_NumClamps.Pure := by
  intro x l h _ _ _
  refine ⟨1, ?_⟩
  unfold cabstandlaw01_NumClamps.f
  simp only [num_Clamp_int8.f, num_Clamp_int16.f, num_Clamp_int32.f, num_Clamp_int64.f, num_Clamp_int.f, cabstandlaw01_Small.f, ref_clamp, Option.bind_some, w64_i8, w64_i16, w64_w32]
  have a := clamp_in (-128) 127 (r8 x) (r8 l) (r8 h)
  have b := clamp_in (-32768) 32767 (r16 x) (r16 l) (r16 h)
  have c := clamp_in (-2147483648) 2147483647 (r32 x) (r32 l) (r32 h)
  rw [w64_in (n := mx (mn (IntKind.i8.wrap x) (IntKind.i8.wrap h)) (IntKind.i8.wrap l)) (by omega) (by omega), w64_in (n := mx (mn (IntKind.i16.wrap x) (IntKind.i16.wrap h)) (IntKind.i16.wrap l)) (by omega) (by omega), w64_in (n := mx (mn (wrap32 x) (wrap32 h)) (wrap32 l)) (by omega) (by omega)]
  simp

end Go.Proofs.Ytdfjbghmeoephaa.Pure
