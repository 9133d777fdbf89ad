/- NumSums answers true for all two ints: Add and Sub are what the document says. -/
import Derived.Test.YtdfjbghmeoephaaPNumSumsx1
namespace Go.Proofs.Ytdfjbghmeoephaa.Pure
open Go.RowKit Go.Proofs.Ytdfjbghmeoephaa.PNumSums Go.Proofs.YtdfjbghmeoephaaW.PrintWords Go.Proofs.YtdfjbghmeoephaaW.PrintLast
theorem is_eq (a : Int) : num_is.f a = cabstandref01_Is.f a := rfl

theorem add_eq (a b : Int) : cabstandref01_Add.f a b = num_Add.f a b := by
  unfold cabstandref01_Add.f num_Add.f cabstandref01_told.f
  simp only [is_eq]
  unfold cabstandref01_Is.f
  by_cases h1 : a ≥ -4611686018427387903 <;> by_cases h2 : b ≥ -4611686018427387903 <;> by_cases h3 : wrap64 (a + b) ≥ -4611686018427387903 <;> simp [h1, h2, h3]
  by_cases h4 : a ≤ 4611686018427387903 <;> by_cases h5 : b ≤ 4611686018427387903 <;> by_cases h6 : wrap64 (a + b) ≤ 4611686018427387903 <;> simp [h4, h5, h6]
theorem sub_eq (a b : Int) : cabstandref01_Sub.f a b = num_Sub.f a b := by
  unfold cabstandref01_Sub.f num_Sub.f cabstandref01_told.f
  simp only [is_eq]
  unfold cabstandref01_Is.f
  by_cases h1 : a ≥ -4611686018427387903 <;> by_cases h2 : b ≥ -4611686018427387903 <;> by_cases h3 : wrap64 (a - b) ≥ -4611686018427387903 <;> simp [h1, h2, h3]
  by_cases h4 : a ≤ 4611686018427387903 <;> by_cases h5 : b ≤ 4611686018427387903 <;> by_cases h6 : wrap64 (a - b) ≤ 4611686018427387903 <;> simp [h4, h5, h6]
theorem is_some (a : Int) : ∃ b, num_is.f a = some b := by
  unfold num_is.f
  split <;> exact ⟨_, rfl⟩
theorem add_some (a b : Int) : ∃ r, num_Add.f a b = some r := by
  obtain ⟨x, hx⟩ := is_some a
  obtain ⟨y, hy⟩ := is_some b
  obtain ⟨z, hz⟩ := is_some (wrap64 (a + b))
  unfold num_Add.f
  rw [hx, hy, hz]
  cases x <;> cases y <;> cases z <;> simp
theorem sub_some (a b : Int) : ∃ r, num_Sub.f a b = some r := by
  obtain ⟨x, hx⟩ := is_some a
  obtain ⟨y, hy⟩ := is_some b
  obtain ⟨z, hz⟩ := is_some (wrap64 (a - b))
  unfold num_Sub.f
  rw [hx, hy, hz]
  cases x <;> cases y <;> cases z <;> simp

theorem NumSums : cabstandlaw01_NumSums.Pure := by
  intro a b _ _
  unfold cabstandlaw01_NumSums.f
  simp only [add_eq, sub_eq]
  obtain ⟨r, hr⟩ := add_some a b
  obtain ⟨s, hs⟩ := sub_some a b
  obtain ⟨t, ht⟩ := sub_some a a
  simp [hr, hs, ht]

end Go.Proofs.Ytdfjbghmeoephaa.Pure
