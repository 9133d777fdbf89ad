/- The walk of FitReasons. -/
import Derived.Test.YteeocipidlnnlaaFits
import Derived.Test.YteeocipidlnnlaaKeep
namespace Go.Proofs.Yteeocipidlnnlaa.Reasons
open Go.RowKit Go.Proofs.Yteeocipidlnnlaa.Aid Go.Proofs.Yteeocipidlnnlaa.Mem Go.Proofs.Yteeocipidlnnlaa.Dist Go.Proofs.Yteeocipidlnnlaa.Types Go.Proofs.Yteeocipidlnnlaa.Fit Go.Proofs.Yteeocipidlnnlaa.RefFit Go.Proofs.Yteeocipidlnnlaa.Fits Go.Proofs.Yteeocipidlnnlaa.Keep
set_option linter.unusedSimpArgs false
theorem why_le (r : Req) (d : Drv) : 0 ≤ why r d ∧ why r d ≤ 7 := by unfold why; repeat' split <;> omega
attribute [local go_sem ↓] Keep.load_req Keep.load_drv
theorem ext {w0 w : World} {b1 b2 : Nat} {v1 v2 : Array Value} (h1 : v1.size = 16) (h2 : v2.size = 13)
    (h : (∀ i : Nat, w.cell? ⟨b1, i, none⟩ = v1[i]?) ∧ (∀ i : Nat, w.cell? ⟨b2, i, none⟩ = v2[i]?) ∧ b1 < w.heap.size ∧ b2 < w.heap.size ∧ Below w0.heap.size w0 w) :
    ((∀ i : Nat, w.cell? ⟨b1, i, none⟩ = v1[i]?) ∧ (∀ i : Nat, w.cell? ⟨b2, i, none⟩ = v2[i]?) ∧ b1 < w.heap.size ∧ b2 < w.heap.size ∧ Below w0.heap.size w0 w) ∧ (LA 28 (.pointer (some ⟨b1, 0, none⟩))).run Try.prog w = .ok (.agg v1) w ∧ (LA 30 (.pointer (some ⟨b2, 0, none⟩))).run Try.prog w = .ok (.agg v2) w :=
  ext2 Try.underlying28 rfl (by rw [h1]; kernel_rfl) Try.underlying30 rfl (by rw [h2]; kernel_rfl) h
set_option maxHeartbeats 8000000 in
set_option maxRecDepth 100000 in
theorem reasons (r : Req) (d : Drv) (w : World) (hr : r.wf) (hd : d.wf) :
    Calls Try.prog 3 #[r.val, d.val] w fun e w' => e = .returned (.bool true) ∧ Below w.heap.size w w' := by
  have kr := Rok.of hr
  have kd := Dok.of hd
  obtain ⟨y0, y1⟩ := why_le r d
  have hwr : (IntKind.i64.wrap (why r d) == why r d) = true := by simp [IntKind.wrap, IntKind.signed, IntKind.bits]; omega
  clear y0 y1
  go_enter Try.func3, Try.ntmps3
  go_wp2
  go_region_held3 (fun w' => ((∀ i : Nat, w'.cell? ⟨w.heap.size, i, none⟩ = (#[.int .u8 r.i0, .int .u8 r.i1, .int .u8 r.i2, .int .u8 r.i3, .int .u8 r.i4, .int .u8 r.i5, .int .u8 r.i6, .int .u8 r.i7, .int .i16 r.fx, .int .i16 r.fy, .int .i16 r.tx, .int .i16 r.ty, .int .u8 r.seats, .int .u8 r.classes, .int .i64 r.base, .int .i64 r.ttl] : Array Value)[i]?) ∧ (∀ i : Nat, w'.cell? ⟨w.heap.size + 1, i, none⟩ = (#[.int .u8 d.i0, .int .u8 d.i1, .int .u8 d.i2, .int .u8 d.i3, .int .u8 d.i4, .int .u8 d.i5, .int .u8 d.i6, .int .u8 d.i7, .int .i16 d.ax, .int .i16 d.ay, .int .u8 d.seats, .int .u8 d.cls, .int .i64 d.radius] : Array Value)[i]?) ∧ w.heap.size < w'.heap.size ∧ w.heap.size + 1 < w'.heap.size ∧ Below w.heap.size w w') ∧ (LA 28 (.pointer (some ⟨w.heap.size, 0, none⟩))).run Try.prog w' = .ok (.agg #[.int .u8 r.i0, .int .u8 r.i1, .int .u8 r.i2, .int .u8 r.i3, .int .u8 r.i4, .int .u8 r.i5, .int .u8 r.i6, .int .u8 r.i7, .int .i16 r.fx, .int .i16 r.fy, .int .i16 r.tx, .int .i16 r.ty, .int .u8 r.seats, .int .u8 r.classes, .int .i64 r.base, .int .i64 r.ttl]) w' ∧ (LA 30 (.pointer (some ⟨w.heap.size + 1, 0, none⟩))).run Try.prog w' = .ok (.agg #[.int .u8 d.i0, .int .u8 d.i1, .int .u8 d.i2, .int .u8 d.i3, .int .u8 d.i4, .int .u8 d.i5, .int .u8 d.i6, .int .u8 d.i7, .int .i16 d.ax, .int .i16 d.ay, .int .u8 d.seats, .int .u8 d.cls, .int .i64 d.radius]) w') (first | exact ext rfl rfl (begin2 _ _ _ _ _) | exact ext rfl rfl (kept2 hb (And.left (by assumption)))) (first | (go_at_call 10; refine (against_c r d _ kr kd).mono ?_; rintro e w' ⟨rfl, hb⟩) | (go_at_call 11; refine (refAgainst_c r d _ kr kd).mono ?_; rintro e w' ⟨rfl, hb⟩) | (go_at_call 12; refine (fits_c r d _ kr kd).mono ?_; rintro e w' ⟨rfl, hb⟩) | (go_at_call 13; refine (refFits_c r d _ kr kd).mono ?_; rintro e w' ⟨rfl, hb⟩))
  go_wp2
  go_ret
  exact ⟨rfl, end2 (And.left (by assumption))⟩
end Go.Proofs.Yteeocipidlnnlaa.Reasons
