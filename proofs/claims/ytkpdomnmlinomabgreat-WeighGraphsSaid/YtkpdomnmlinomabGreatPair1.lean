/- fit.Pairs of two lists of one each that do not fit: no pair. -/
import Derived.Test.YtkpdomnmlinomabGreatFits
import Derived.Test.YtkpdomnmlinomabGreatKeep
import Derived.Handy
namespace Go.Proofs.YtkpdomnmlinomabGreat.Pair1
open Go.RowKit Go.Proofs.YtkpdomnmlinomabGreat.Aid Go.Proofs.YtkpdomnmlinomabGreat.Mem Go.Proofs.YtkpdomnmlinomabGreat.Dist Go.Proofs.YtkpdomnmlinomabGreat.Types Go.Proofs.YtkpdomnmlinomabGreat.Fit Go.Proofs.YtkpdomnmlinomabGreat.RefFit Go.Proofs.YtkpdomnmlinomabGreat.Fits Go.Proofs.YtkpdomnmlinomabGreat.Keep
set_option linter.unusedSimpArgs false
set_option linter.unusedVariables false
attribute [local go_sem ↓] Keep.load_req Keep.load_drv
abbrev rl (r : Req) : List Value := [.int .u8 r.i0, .int .u8 r.i1, .int .u8 r.i2, .int .u8 r.i3, .int .u8 r.i4, .int .u8 r.i5, .int .u8 r.i6, .int .u8 r.i7, .int .i16 r.fx, .int .i16 r.fy, .int .i16 r.tx, .int .i16 r.ty, .int .u8 r.seats, .int .u8 r.classes, .int .i64 r.base, .int .i64 r.ttl]
abbrev dl (d : Drv) : List Value := [.int .u8 d.i0, .int .u8 d.i1, .int .u8 d.i2, .int .u8 d.i3, .int .u8 d.i4, .int .u8 d.i5, .int .u8 d.i6, .int .u8 d.i7, .int .i16 d.ax, .int .i16 d.ay, .int .u8 d.seats, .int .u8 d.cls, .int .i64 d.radius]
theorem fits_v (r : Req) (d : Drv) (w : World) (hr : Rok r) (hd : Dok d) (b : Bool) (hb : Hid (fits r d = b)) :
    Calls Tryz.prog 114 #[.agg (rl r).toArray, .agg (dl d).toArray] w fun e w' => e = .returned (.bool b) ∧ Below w.heap.size w w' := by
  obtain rfl := hb.out
  exact fits_c r d w hr hd
theorem keepS {w0 w w' : World} {b1 b2 : Nat} {t1 t2 : TypeId} {l1 l2 s1 s2 : List Value} (hb : Below w.heap.size w w') (h : Blk w b1 t1 (l1 ++ s1) ∧ Blk w b2 t2 (l2 ++ s2) ∧ Below w0.heap.size w0 w) : Blk w' b1 t1 (l1 ++ s1) ∧ Blk w' b2 t2 (l2 ++ s2) ∧ Below w0.heap.size w0 w' :=
  ⟨h.1.below hb h.1.lt, h.2.1.below hb h.2.1.lt, kbt h.2.2 hb⟩
theorem endS {w0 w : World} {b1 b2 : Nat} {t1 t2 : TypeId} {l1 l2 s1 s2 : List Value} (h : Blk w b1 t1 (l1 ++ s1) ∧ Blk w b2 t2 (l2 ++ s2) ∧ Below w0.heap.size w0 w) : Below w0.heap.size w0 w := h.2.2
theorem loads_blk {P : Program} {t t' : TypeId} {w : World} {b : Nat} {l s : List Value} {d : TypeDesc} (hu : P.underlying t = some d) (hd : d.isRow = true) (hi : (P.info? t).map (·.size) = some l.length) (h : Blk w b t' (l ++ s)) : (LA t (.pointer (some ⟨b, 0, none⟩))).run P w = .ok (.agg l.toArray) w :=
  loads_pre hu hd (by simpa using hi) (fun i x hx => h.cellv (by simp at hx; rw [List.getElem?_append_left (List.getElem?_eq_some_iff.1 hx).1, hx]))
theorem extS {w0 w : World} {b1 b2 : Nat} {r : Req} {d : Drv} {s1 s2 : List Value} (h : Blk w b1 78 (rl r ++ s1) ∧ Blk w b2 82 (dl d ++ s2) ∧ Below w0.heap.size w0 w) :
    (Blk w b1 78 (rl r ++ s1) ∧ Blk w b2 82 (dl d ++ s2) ∧ Below w0.heap.size w0 w) ∧ (LA 76 (.pointer (some ⟨b1, 0, none⟩))).run Tryz.prog w = .ok (.agg (rl r).toArray) w ∧ (LA 80 (.pointer (some ⟨b2, 0, none⟩))).run Tryz.prog w = .ok (.agg (dl d).toArray) w :=
  ⟨h, loads_blk Tryz.underlying76 rfl (by show _ = some 16; kernel_rfl) h.1, loads_blk Tryz.underlying80 rfl (by show _ = some 13; kernel_rfl) h.2.1⟩
set_option maxHeartbeats 8000000 in
set_option maxRecDepth 100000 in
theorem pairs11 (r : Req) (d : Drv) (w : World) (b1 b2 c1 c2 : Nat) (s1 s2 : List Value) (hr : Rok r) (hd : Dok d) (hf : Hid (fits r d = false)) (H : Hid (Blk w b1 78 (rl r ++ s1) ∧ Blk w b2 82 (dl d ++ s2))) :
    Calls Tryz.prog 25 #[.slice (some ⟨b1, 0, none⟩) 1 c1, .slice (some ⟨b2, 0, none⟩) 1 c2] w fun e w' => e = .returned (.slice none 0 0) ∧ Below w.heap.size w w' := by
  go_enter Tryz.func25, Tryz.ntmps25
  go_wp2
  refine wp_loop_rounds 2 ?_
  rw [rounds_succ]
  go_wp2
  refine wp_loop_rounds 2 ?_
  rw [rounds_succ]
  go_wp2
  go_region_held3 (fun w' => (Blk w' b1 78 (rl r ++ s1) ∧ Blk w' b2 82 (dl d ++ s2) ∧ Below w.heap.size w w') ∧ (LA 76 (.pointer (some ⟨b1, 0, none⟩))).run Tryz.prog w' = .ok (.agg (rl r).toArray) w' ∧ (LA 80 (.pointer (some ⟨b2, 0, none⟩))).run Tryz.prog w' = .ok (.agg (dl d).toArray) w') (first | exact extS ⟨H.out.1.drew, H.out.2.drew, (Below.refl _ _).drew⟩ | exact extS (keepS hb (And.left (by assumption)))) (first | (go_at_call 114; refine (fits_v r d _ hr hd _ hf).mono ?_; rintro e w' ⟨rfl, hb⟩))
  go_wp2
  rw [rounds_succ]
  go_wp2
  rw [rounds_succ]
  go_wp2
  go_ret
  exact ⟨rfl, endS (And.left (by assumption))⟩
end Go.Proofs.YtkpdomnmlinomabGreat.Pair1
