/- Contracts of the window's Rate. -/
import Derived.Test.YthcjkdmlaahpbaaWinD
import Derived.Test.YthcjkdmlaahpbaaSmooth
namespace Go.Proofs.Ythcjkdmlaahpbaa.Win
open Go.RowKit Go.Proofs.Ythcjkdmlaahpbaa.Aid Go.Proofs.Ythcjkdmlaahpbaa.Mem Go.Proofs.Ythcjkdmlaahpbaa.Keep Go.Proofs.Ythcjkdmlaahpbaa.Nums Go.Proofs.Ythcjkdmlaahpbaa.Fl
set_option linter.unusedSimpArgs false
set_option linter.unusedVariables false
set_option maxRecDepth 100000
theorem rate_nil (tick : Int) (W : World) : Calls Try.prog 30 #[.pointer none, .int .i64 tick] W fun e w' => e = .returned (.tuple #[.float .f64 0, .int .i64 2]) ∧ W = w' := by
  go_enter Try.func30, Try.ntmps30
  go_wp2_with (first | (go_at_call 14; (with_reducible refine (sum_nil tick _).mono ?_); rintro e w' ⟨rfl, rfl⟩))
  go_ret2
  exact ⟨rfl, rfl⟩
theorem rate_e (W : World) (g B : Nat) (wd ck sm : Int) (l : List (Int × Int)) (tick e : Int) (hw : Win W g B wd ck sm l) (he : Hid (atE wd ck tick = e)) (ne : (e != 0) = true) :
    Calls Try.prog 30 #[.pointer (some ⟨g, 0, none⟩), .int .i64 tick] W fun x w' => x = .returned (.tuple #[.float .f64 0, .int .i64 e]) ∧ W = w' := by
  go_enter Try.func30, Try.ntmps30
  go_wp2_with (first | (go_at_call 14; (with_reducible refine (sum_e W g B wd ck sm l tick e hw he ne).mono ?_); rintro e w' ⟨rfl, rfl⟩))
  go_ret2
  exact ⟨rfl, rfl⟩
theorem rate_ok (W : World) (g B : Nat) (wd ck sm : Int) (l : List (Int × Int)) (tick : Int) (h : Ask W g B wd ck sm l tick) (l2 : List (Int × Int)) (s2 : Int) (h2 : Hid (l.drop (lead (tick - wd) l) = l2)) (hs2 : Hid (sumA l2 = s2)) (q : Nat) (hq : floatBits .quo .f64 (floatOfInt .f64 s2) (floatOfInt .f64 wd) = some q) :
    Calls Try.prog 30 #[.pointer (some ⟨g, 0, none⟩), .int .i64 tick] W fun x w' => x = .returned (.tuple #[.float .f64 q, .int .i64 0]) ∧ Win w' g W.heap.size wd tick s2 l2 ∧ Chg g W w' := by
  have hH := Lib.hid h
  have hquo : ∀ t w, (binOp .quo t (.float .f64 (floatOfInt .f64 s2)) (.float .f64 (floatOfInt .f64 wd))).run Try.prog w = .ok (.float .f64 q) w := fun t w => run_float_arith w .quo t .f64 _ _ q hq
  clear h hq
  go_enter Try.func30, Try.ntmps30
  go_wp2_with (first | (go_at_call 14; (refine (sum_ok W g B wd ck sm l tick hH.out l2 s2 h2 hs2).mono ?_); rintro e w5 ⟨rfl, hw5, hC5⟩; have c0 := hw5.c0; have HW5 := Lib.hid hw5; have HC5 := Lib.hid hC5; clear hw5 hC5))
  go_ret2
  exact ⟨rfl, HW5.out, HC5.out⟩
end Go.Proofs.Ythcjkdmlaahpbaa.Win
