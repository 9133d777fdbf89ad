/- The walk of WindowNone. -/
import Derived.Test.YthcjkdmlaahpbaaAliveN
import Derived.Test.YthcjkdmlaahpbaaRate
namespace Go.Proofs.Ythcjkdmlaahpbaa.WNone
open Go.RowKit Go.Proofs.Ythcjkdmlaahpbaa.Aid Go.Proofs.Ythcjkdmlaahpbaa.Fl Go.Proofs.Ythcjkdmlaahpbaa.Mem Go.Proofs.Ythcjkdmlaahpbaa.Keep Go.Proofs.Ythcjkdmlaahpbaa.Round Go.Proofs.Ythcjkdmlaahpbaa.Win Go.Proofs.Ythcjkdmlaahpbaa.Smooth Go.Proofs.Ythcjkdmlaahpbaa.AliveN
open Ieee (double Toward Format)
set_option linter.unusedSimpArgs false
set_option linter.unusedVariables false
set_option maxRecDepth 100000
set_option maxHeartbeats 2000000 in
theorem nones (tick n : Int) (x : Nat) (w : World) (_ : (Lit.int .i64 tick).wf = true) (_ : (Lit.int .i64 n).wf = true) (_ : (Lit.float .f64 x).wf = true) :
    Calls Try.prog 9 #[.int .i64 tick, .int .i64 n, .float .f64 x] w fun e w' => e = .returned (.bool true) ∧ Below w.heap.size w w' := by
  have q0 : (FloatKind.f64.format.order 0 0 == some .eq) = true := by decide +kernel
  have q1 : (FloatKind.f64.format.order 0 0 != some .eq) = false := by decide +kernel
  have hB1 := (Blk.new w 71 [.int .i64 0, .int .i64 0, .int .i64 0, .slice none 0 0]).alloc (.cells #[.float .f64 0, .float .f64 0, .bool false] 73)
  have hW : Win ((w.alloc (.cells #[.int .i64 0, .int .i64 0, .int .i64 0, .slice none 0 0] 71)).alloc (.cells #[.float .f64 0, .float .f64 0, .bool false] 73)) w.heap.size 0 0 0 0 [] := ⟨_, hB1, Own.nil _ _ _ _⟩
  have hS : Smo ((w.alloc (.cells #[.int .i64 0, .int .i64 0, .int .i64 0, .slice none 0 0] 71)).alloc (.cells #[.float .f64 0, .float .f64 0, .bool false] 73)) (w.heap.size + 1) 0 0 false := by
    have := Blk.new (w.alloc (.cells #[.int .i64 0, .int .i64 0, .int .i64 0, .slice none 0 0] 71)) 73 [.float .f64 0, .float .f64 0, .bool false]
    rw [size_alloc] at this
    exact this
  have hb : Below w.heap.size w ((w.alloc (.cells #[.int .i64 0, .int .i64 0, .int .i64 0, .slice none 0 0] 71)).alloc (.cells #[.float .f64 0, .float .f64 0, .bool false] 73)) := kba (kba (Below.refl _ _) _) _
  have HE : Hid (atE 0 0 tick = 2) := Lib.hid (by unfold atE; rw [if_pos rfl])
  have HW := Lib.hid hW
  have HS := Lib.hid hS
  have HB := Lib.hid hb
  clear hB1 hW hS hb
  go_enter Try.func9, Try.ntmps9
  go_wp2_with (first | (go_at_call 12; (with_reducible refine (add_nil tick n _).mono ?_); rintro e w' ⟨rfl, rfl⟩) | (go_at_call 12; (with_reducible refine (add_e _ w.heap.size 0 0 0 0 [] tick n 2 HW.out (.inl (Int.le_refl 0)) HE rfl).mono ?_); rintro e w' ⟨rfl, rfl⟩) | (go_at_call 14; (with_reducible refine (sum_nil tick _).mono ?_); rintro e w' ⟨rfl, rfl⟩) | (go_at_call 14; (with_reducible refine (sum_e _ w.heap.size 0 0 0 0 [] tick 2 HW.out HE rfl).mono ?_); rintro e w' ⟨rfl, rfl⟩) | (go_at_call 30; (with_reducible refine (rate_nil tick _).mono ?_); rintro e w' ⟨rfl, rfl⟩) | (go_at_call 30; (with_reducible refine (rate_e _ w.heap.size 0 0 0 0 [] tick 2 HW.out HE rfl).mono ?_); rintro e w' ⟨rfl, rfl⟩) | (go_at_call 21; (with_reducible refine (sadd_nil x _).mono ?_); rintro e w' ⟨rfl, rfl⟩) | (go_at_call 21; (with_reducible refine (sadd_zero x _ (w.heap.size + 1) 0 0 false HS.out q0).mono ?_); rintro e w' ⟨rfl, rfl⟩) | (go_at_call 20; (with_reducible refine (mean_nil _).mono ?_); rintro e w' ⟨rfl, rfl⟩) | (go_at_call 20; (with_reducible refine (mean_f _ (w.heap.size + 1) 0 0 HS.out).mono ?_); rintro e w' ⟨rfl, rfl⟩) | (go_at_call 13; with_reducible refine (alive_c _).mono ?_; rintro e w1 ⟨rfl, hb⟩; have HB1 := Lib.hid (kbt HB.out hb); clear hb))
  go_ret
  exact ⟨rfl, HB1.out⟩
end Go.Proofs.Ythcjkdmlaahpbaa.WNone
