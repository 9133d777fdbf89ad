/- Contracts of plane.Dist and of the document's distance: by rows and columns. -/
import Derived.Test.YtkpdomnmlinomaaGreatRows
import Derived.Test.YtkpdomnmlinomaaGreatMem
import Derived.Test.YtkpdomnmlinomaaGreatAid
import Derived.WalkKit
import Derived.WalkSpells
import Derived.WalkLawsBesides
import Derived.Lib.Hide
import Derived.Deep.QuietTactic
import Derived.BigQuiet
namespace Go.Proofs.YtkpdomnmlinomaaGreat.Dist
open Go.RowKit Go.Proofs.YtkpdomnmlinomaaGreat.Aid Go.Proofs.YtkpdomnmlinomaaGreat.Mem
set_option linter.unusedSimpArgs false

/-- An int16. -/
def S16 (x : Int) : Prop := -32768 ≤ x ∧ x ≤ 32767
def dst (a b c d : Int) : Int := max (a - c) (c - a) + max (b - d) (d - b)
theorem ret_i {a b : Int} (h : a = b) : Ending.returned (.int .i64 a) = Ending.returned (.int .i64 b) := by rw [h]
theorem apart_c (x y : Int) (w : World) (hx : S16 x) (hy : S16 y) : Calls Tryz.prog 150 #[.int .i16 x, .int .i16 y] w fun e w' => e = .returned (.int .i64 (max (x - y) (y - x))) ∧ w' = w := by
  obtain ⟨x1, x2⟩ := hx
  obtain ⟨y1, y2⟩ := hy
  go_enter Tryz.func150, Tryz.ntmps150
  go_wp2
  all_goals (go_ret; exact ⟨ret_i (by omega), rfl⟩)
theorem dist_c (a b c d : Int) (w : World) (ha : S16 a) (hb : S16 b) (hc : S16 c) (hd : S16 d) :
    Calls Tryz.prog 148 #[.agg #[.int .i16 a, .int .i16 b], .agg #[.int .i16 c, .int .i16 d]] w fun e w' => e = .returned (.int .i64 (dst a b c d)) ∧ ∃ o1 o2 n, w' = ((w.alloc o1).alloc o2).drewN n := by
  obtain ⟨a1, a2⟩ := id ha
  obtain ⟨b1, b2⟩ := id hb
  obtain ⟨c1, c2⟩ := id hc
  obtain ⟨d1, d2⟩ := id hd
  go_enter Tryz.func148, Tryz.ntmps148
  go_wp2
  go_quiet ((go_at_call 150; exact Calls.quiet_of_same (apart_c _ _ _ (by assumption) (by assumption))))
  go_wp2
  go_ret
  exact ⟨ret_i (by unfold dst; omega), _, _, _, rfl⟩
theorem size_c (x : Int) (w : World) (hx : -65535 ≤ x ∧ x ≤ 65535) : Calls Tryz.prog 149 #[.int .i64 x] w fun e w' => e = .returned (.int .i64 (max x (-x))) ∧ w' = w := by
  obtain ⟨x1, x2⟩ := hx
  go_enter Tryz.func149, Tryz.ntmps149
  go_wp2
  all_goals (go_ret; exact ⟨ret_i (by omega), rfl⟩)
theorem refDist_c (a b c d : Int) (w : World) (ha : S16 a) (hb : S16 b) (hc : S16 c) (hd : S16 d) :
    Calls Tryz.prog 147 #[.agg #[.int .i16 a, .int .i16 b], .agg #[.int .i16 c, .int .i16 d]] w fun e w' => e = .returned (.int .i64 (dst a b c d)) ∧ ∃ o1 o2 n, w' = ((w.alloc o1).alloc o2).drewN n := by
  obtain ⟨a1, a2⟩ := ha
  obtain ⟨b1, b2⟩ := hb
  obtain ⟨c1, c2⟩ := hc
  obtain ⟨d1, d2⟩ := hd
  go_enter Tryz.func147, Tryz.ntmps147
  go_wp2
  go_quiet ((go_at_call 149; exact Calls.quiet_of_same (size_c _ _ (by constructor <;> omega))))
  go_wp2
  go_ret
  exact ⟨ret_i (by unfold dst; omega), _, _, _, rfl⟩
end Go.Proofs.YtkpdomnmlinomaaGreat.Dist
