/- Contracts of plane.Dist and of the document's distance: by rows and columns. -/
import Derived.Test.YtkpdomnmlinomabGreatRows
import Derived.Test.YtkpdomnmlinomabGreatMem
import Derived.Test.YtkpdomnmlinomabGreatAid
import Derived.WalkKit
import Derived.WalkSpells
import Derived.WalkLawsBesides
import Derived.Lib.Hide
import Derived.Deep.QuietTactic
import Derived.BigQuiet
namespace Go.Proofs.YtkpdomnmlinomabGreat.Dist
open Go.RowKit Go.Proofs.YtkpdomnmlinomabGreat.Aid Go.Proofs.YtkpdomnmlinomabGreat.Mem
set_option linter.unusedSimpArgs false

/-- An int16. -/
def S16 (x : Int) : Prop := -32768 ≤ x ∧ x ≤ 32767
def dst (a b c d : Int) : Int := max (a - c) (c - a) + max (b - d) (d - b)
theorem ret_i {a b : Int} (h : a = b) : Ending.returned (.int .i64 a) = Ending.returned (.int .i64 b) := by rw [h]
theorem apart_c (x y : Int) (w : World) (hx : S16 x) (hy : S16 y) : Calls Tryz.prog 173 #[.int .i16 x, .int .i16 y] w fun e w' => e = .returned (.int .i64 (max (x - y) (y - x))) ∧ w' = w := by
  obtain ⟨x1, x2⟩ := hx
  obtain ⟨y1, y2⟩ := hy
  go_enter Tryz.func173, Tryz.ntmps173
  go_wp2
  all_goals (go_ret; exact ⟨ret_i (by omega), rfl⟩)
theorem dist_c (a b c d : Int) (w : World) (ha : S16 a) (hb : S16 b) (hc : S16 c) (hd : S16 d) :
    Calls Tryz.prog 171 #[.agg #[.int .i16 a, .int .i16 b], .agg #[.int .i16 c, .int .i16 d]] w fun e w' => e = .returned (.int .i64 (dst a b c d)) ∧ ∃ o1 o2 n, w' = ((w.alloc o1).alloc o2).drewN n := by
  obtain ⟨a1, a2⟩ := id ha
  obtain ⟨b1, b2⟩ := id hb
  obtain ⟨c1, c2⟩ := id hc
  obtain ⟨d1, d2⟩ := id hd
  go_enter Tryz.func171, Tryz.ntmps171
  go_wp2
  go_quiet ((go_at_call 173; exact Calls.quiet_of_same (apart_c _ _ _ (by assumption) (by assumption))))
  go_wp2
  go_ret
  exact ⟨ret_i (by unfold dst; omega), _, _, _, rfl⟩
theorem size_c (x : Int) (w : World) (hx : -65535 ≤ x ∧ x ≤ 65535) : Calls Tryz.prog 172 #[.int .i64 x] w fun e w' => e = .returned (.int .i64 (max x (-x))) ∧ w' = w := by
  obtain ⟨x1, x2⟩ := hx
  go_enter Tryz.func172, Tryz.ntmps172
  go_wp2
  all_goals (go_ret; exact ⟨ret_i (by omega), rfl⟩)
theorem refDist_c (a b c d : Int) (w : World) (ha : S16 a) (hb : S16 b) (hc : S16 c) (hd : S16 d) :
    Calls Tryz.prog 170 #[.agg #[.int .i16 a, .int .i16 b], .agg #[.int .i16 c, .int .i16 d]] w fun e w' => e = .returned (.int .i64 (dst a b c d)) ∧ ∃ o1 o2 n, w' = ((w.alloc o1).alloc o2).drewN n := by
  obtain ⟨a1, a2⟩ := ha
  obtain ⟨b1, b2⟩ := hb
  obtain ⟨c1, c2⟩ := hc
  obtain ⟨d1, d2⟩ := hd
  go_enter Tryz.func170, Tryz.ntmps170
  go_wp2
  go_quiet ((go_at_call 172; exact Calls.quiet_of_same (size_c _ _ (by constructor <;> omega))))
  go_wp2
  go_ret
  exact ⟨ret_i (by unfold dst; omega), _, _, _, rfl⟩
end Go.Proofs.YtkpdomnmlinomabGreat.Dist
