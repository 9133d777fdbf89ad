/- Contracts of plane.Dist and of the document's distance: by rows and columns. -/
import Derived.Test.YtbpdfcllojaanaaRows
import Derived.Test.YtbpdfcllojaanaaMem
import Derived.Test.YtbpdfcllojaanaaAid
import Derived.WalkKit
import Derived.WalkSpells
import Derived.WalkLawsBesides
import Derived.Lib.Hide
import Derived.Deep.QuietTactic
import Derived.BigQuiet
namespace Go.Proofs.Ytbpdfcllojaanaa.Dist
open Go.RowKit Go.Proofs.Ytbpdfcllojaanaa.Aid Go.Proofs.Ytbpdfcllojaanaa.Mem
set_option linter.unusedSimpArgs false

/-- An int16. -/
def S16 (x : Int) : Prop := -32768 ≤ x ∧ x ≤ 32767
def dst (a b c d : Int) : Int := max (a - c) (c - a) + max (b - d) (d - b)
theorem ret_i {a b : Int} (h : a = b) : Ending.returned (.int .i64 a) = Ending.returned (.int .i64 b) := by rw [h]
theorem apart_c (x y : Int) (w : World) (hx : S16 x) (hy : S16 y) : Calls Try.prog 50 #[.int .i16 x, .int .i16 y] w fun e w' => e = .returned (.int .i64 (max (x - y) (y - x))) ∧ w' = w := by
  obtain ⟨x1, x2⟩ := hx
  obtain ⟨y1, y2⟩ := hy
  go_enter Try.func50, Try.ntmps50
  go_wp2
  all_goals (go_ret; exact ⟨ret_i (by omega), rfl⟩)
theorem dist_c (a b c d : Int) (w : World) (ha : S16 a) (hb : S16 b) (hc : S16 c) (hd : S16 d) :
    Calls Try.prog 48 #[.agg #[.int .i16 a, .int .i16 b], .agg #[.int .i16 c, .int .i16 d]] w fun e w' => e = .returned (.int .i64 (dst a b c d)) ∧ ∃ o1 o2 n, w' = ((w.alloc o1).alloc o2).drewN n := by
  obtain ⟨a1, a2⟩ := id ha
  obtain ⟨b1, b2⟩ := id hb
  obtain ⟨c1, c2⟩ := id hc
  obtain ⟨d1, d2⟩ := id hd
  go_enter Try.func48, Try.ntmps48
  go_wp2
  go_quiet ((go_at_call 50; exact Calls.quiet_of_same (apart_c _ _ _ (by assumption) (by assumption))))
  go_wp2
  go_ret
  exact ⟨ret_i (by unfold dst; omega), _, _, _, rfl⟩
end Go.Proofs.Ytbpdfcllojaanaa.Dist
