/- Contracts of both Fits: is there no reason? -/
import Derived.Test.YtkpdomnmlinomabGreatRefFit
namespace Go.Proofs.YtkpdomnmlinomabGreat.Fits
open Go.RowKit Go.Proofs.YtkpdomnmlinomabGreat.Aid Go.Proofs.YtkpdomnmlinomabGreat.Mem Go.Proofs.YtkpdomnmlinomabGreat.Dist Go.Proofs.YtkpdomnmlinomabGreat.Types Go.Proofs.YtkpdomnmlinomabGreat.Fit Go.Proofs.YtkpdomnmlinomabGreat.RefFit
set_option linter.unusedSimpArgs false
def fits (r : Req) (d : Drv) : Bool := decide (why r d = 0)
theorem ret_b {a b : Bool} (h : a = b) : Ending.returned (.bool a) = Ending.returned (.bool b) := by rw [h]
theorem bt {a w v : World} (h : Below a.heap.size a w) (k : Below w.heap.size w v) : Below a.heap.size a v := h.trans (k.mono h.size)
set_option maxHeartbeats 4000000 in
set_option maxRecDepth 100000 in
theorem fits_c (r : Req) (d : Drv) (w : World) (hr : Rok r) (hd : Dok d) :
    Calls Tryz.prog 114 #[r.val, d.val] w fun e w' => e = .returned (.bool (fits r d)) ∧ Below w.heap.size w w' := by
  go_enter Tryz.func114, Tryz.ntmps114
  go_wp2_with (first | (go_at_call 168; (with_reducible refine (against_c r d _ hr hd).mono ?_); rintro e w' ⟨rfl, hb⟩))
  go_ret
  exact ⟨ret_b (by unfold fits; first | rfl | simp), by repeat' (first | exact Below.refl _ _ | apply below_drewN | apply ba | exact hb | refine bt ?_ hb)⟩
set_option maxHeartbeats 4000000 in
set_option maxRecDepth 100000 in
theorem refFits_c (r : Req) (d : Drv) (w : World) (hr : Rok r) (hd : Dok d) :
    Calls Tryz.prog 109 #[r.val, d.val] w fun e w' => e = .returned (.bool (fits r d)) ∧ Below w.heap.size w w' := by
  go_enter Tryz.func109, Tryz.ntmps109
  go_wp2_with (first | (go_at_call 163; (with_reducible refine (refAgainst_c r d _ hr hd).mono ?_); rintro e w' ⟨rfl, hb⟩))
  go_ret
  exact ⟨ret_b (by unfold fits; first | rfl | simp), by repeat' (first | exact Below.refl _ _ | apply below_drewN | apply ba | exact hb | refine bt ?_ hb)⟩
end Go.Proofs.YtkpdomnmlinomabGreat.Fits
