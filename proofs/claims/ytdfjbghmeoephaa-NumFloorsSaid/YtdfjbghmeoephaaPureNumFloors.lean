/- NumFloors answers true for all two ints: Floor is what the document says. -/
import Derived.Test.YtdfjbghmeoephaaPNumFloorsx1
import Derived.Test.YtdfjbghmeoephaaAid
namespace Go.Proofs.Ytdfjbghmeoephaa.Pure
open Go.RowKit Go.Proofs.Ytdfjbghmeoephaa.PNumFloors Go.Proofs.YtdfjbghmeoephaaW.PrintWords Go.Proofs.YtdfjbghmeoephaaW.PrintLast
open Go.Proofs.Ytdfjbghmeoephaa.Aid

theorem tmod_small (a b : Int) (hb : b ≠ 0) : (Int.tmod a b).natAbs < b.natAbs := by
  rw [Int.natAbs_tmod]
  exact Nat.mod_lt _ (by omega)

theorem j0_eq (a b : Int) (ha : -4611686018427387903 ≤ a) (ha' : a ≤ 4611686018427387903) (hb : -4611686018427387903 ≤ b) (hb' : b ≤ 4611686018427387903) (h0 : b ≠ 0) :
    cabstandref01_Floor.j0 1 a b false = num_Floor.j0 1 a b false := by
  have hs := tmod_small a b h0
  have hw : wrap64 (-a) = -a := w64_in (by omega) (by omega)
  have hw' : wrap64 (-b) = -b := w64_in (by omega) (by omega)
  simp only [cabstandref01_Floor.j0, num_Floor.j0, hw, hw', if_neg h0, Bool.false_eq_true, if_false]
  unfold cabstandref01_down.f
  rw [Int.neg_tmod, Int.tmod_neg, Int.neg_tdiv_neg, if_neg h0, if_neg (show ¬ -b = 0 by omega)]
  generalize Int.tmod a b = t at *
  generalize Int.tdiv a b = q
  by_cases hp : b > 0
  · rw [if_pos hp]
    have hd : decide (b < 0) = false := decide_eq_false (by omega)
    rw [hd]
    by_cases h1 : t = 0
    · rw [if_neg (by omega), if_pos h1]; rfl
    · rw [if_neg h1]
      by_cases h2 : t < 0
      · rw [if_pos h2, decide_eq_true h2, if_pos (by decide)]; rfl
      · rw [if_neg h2, decide_eq_false h2, if_neg (by decide)]; rfl
  · rw [if_neg hp]
    have hd : decide (b < 0) = true := decide_eq_true (by omega)
    rw [hd]
    have e : wrap64 (- -t) = t := by rw [w64_in] <;> omega
    by_cases h1 : t = 0
    · rw [if_neg (by omega), if_pos h1]
      simp only [Option.bind_some, e]
    · rw [if_neg h1]
      by_cases h2 : t < 0
      · rw [if_neg (show ¬ -t < 0 by omega), decide_eq_true h2, if_neg (by decide)]
        simp only [Option.bind_some, e]
      · have e : wrap64 (-wrap64 (-t + -b)) = wrap64 (t + b) := by
          rw [w64_in (n := -t + -b) (by omega) (by omega)]; congr 1; omega
        rw [if_pos (show -t < 0 by omega), decide_eq_false h2, if_pos (by decide)]
        simp only [Option.bind_some, e]

theorem is_eq (a : Int) : num_is.f a = cabstandref01_Is.f a := rfl
theorem is_val (a : Int) : num_is.f a = some (decide (-4611686018427387903 ≤ a ∧ a ≤ 4611686018427387903)) := by
  unfold num_is.f
  by_cases h : a ≥ -4611686018427387903
  · simp [h]
  · simp [h]
theorem j0_true (a b : Int) : cabstandref01_Floor.j0 1 a b true = num_Floor.j0 1 a b true := rfl
theorem floor_eq (a b : Int) : cabstandref01_Floor.f 1 a b = num_Floor.f 1 a b := by
  unfold cabstandref01_Floor.f num_Floor.f
  rw [← is_eq, ← is_eq, is_val, is_val]
  simp only [Option.bind_some, decide_eq_true_eq]
  by_cases ha : -4611686018427387903 ≤ a ∧ a ≤ 4611686018427387903
  · by_cases hb : -4611686018427387903 ≤ b ∧ b ≤ 4611686018427387903
    · rw [if_pos ha, if_pos hb, if_pos ha, if_pos hb]
      by_cases h0 : b = 0
      · subst h0; rfl
      · rw [show (b == 0) = false by simpa using h0]
        exact j0_eq a b ha.1 ha.2 hb.1 hb.2 h0
    · rw [if_pos ha, if_neg hb, if_pos ha, if_neg hb]; rfl
  · rw [if_neg ha, if_neg ha]; rfl
theorem floor_some (a b : Int) : ∃ r, num_Floor.f 1 a b = some r := by
  unfold num_Floor.f
  rw [is_val, is_val]
  simp only [Option.bind_some, num_Floor.j0]
  by_cases h0 : b = 0
  · subst h0
    repeat' split
    all_goals first | exact ⟨_, rfl⟩ | simp_all
  · repeat' split
    all_goals first | exact ⟨_, rfl⟩ | simp_all

theorem NumFloors : cabstandlaw01_NumFloors.Pure := by
  intro a b _ _
  refine ⟨1, ?_⟩
  unfold cabstandlaw01_NumFloors.f
  rw [floor_eq]
  obtain ⟨r, hr⟩ := floor_some a b
  simp [hr]

end Go.Proofs.Ytdfjbghmeoephaa.Pure
