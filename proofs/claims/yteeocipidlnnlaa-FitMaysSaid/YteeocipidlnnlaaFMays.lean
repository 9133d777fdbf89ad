/- The walk of FitMays. -/
import Derived.Test.YteeocipidlnnlaaMays
import Derived.Test.YteeocipidlnnlaaKeep
import Derived.Deep.RegionHeld3
namespace Go.Proofs.Yteeocipidlnnlaa.FMays
open Go.RowKit Go.Proofs.Yteeocipidlnnlaa.Aid Go.Proofs.Yteeocipidlnnlaa.Mem Go.Proofs.Yteeocipidlnnlaa.Types Go.Proofs.Yteeocipidlnnlaa.Mays Go.Proofs.Yteeocipidlnnlaa.Keep
set_option linter.unusedSimpArgs false
attribute [local go_sem ↓] Keep.load_req Keep.load_drv Keep.load_cfg
theorem ext {w0 w : World} {b1 b2 b3 : Nat} {v1 v2 v3 : Array Value} (h1 : v1.size = 5) (h2 : v2.size = 16) (h3 : v3.size = 13)
    (h : (∀ i : Nat, w.cell? ⟨b1, i, none⟩ = v1[i]?) ∧ (∀ i : Nat, w.cell? ⟨b2, i, none⟩ = v2[i]?) ∧ (∀ i : Nat, w.cell? ⟨b3, i, none⟩ = v3[i]?) ∧ b1 < w.heap.size ∧ b2 < w.heap.size ∧ b3 < w.heap.size ∧ Below w0.heap.size w0 w) :
    ((∀ i : Nat, w.cell? ⟨b1, i, none⟩ = v1[i]?) ∧ (∀ i : Nat, w.cell? ⟨b2, i, none⟩ = v2[i]?) ∧ (∀ i : Nat, w.cell? ⟨b3, i, none⟩ = v3[i]?) ∧ b1 < w.heap.size ∧ b2 < w.heap.size ∧ b3 < w.heap.size ∧ Below w0.heap.size w0 w) ∧ (LA 36 (.pointer (some ⟨b1, 0, none⟩))).run Try.prog w = .ok (.agg v1) w ∧ (LA 28 (.pointer (some ⟨b2, 0, none⟩))).run Try.prog w = .ok (.agg v2) w ∧ (LA 30 (.pointer (some ⟨b3, 0, none⟩))).run Try.prog w = .ok (.agg v3) w :=
  ext3 Try.underlying36 rfl (by rw [h1]; kernel_rfl) Try.underlying28 rfl (by rw [h2]; kernel_rfl) Try.underlying30 rfl (by rw [h3]; kernel_rfl) h
theorem grow {w w' : World} (h : ∃ o, w' = w.alloc o) : Below w.heap.size w w' := by
  obtain ⟨o, rfl⟩ := h
  exact alloc_below w o
set_option maxHeartbeats 8000000 in
set_option maxRecDepth 100000 in
theorem mays (c : Cfg) (r : Req) (d : Drv) (w : World) (_ : c.wf) (hr : r.wf) (hd : d.wf) :
    Calls Try.prog 4 #[c.val, r.val, d.val] w fun e w' => e = .returned (.bool true) ∧ Below w.heap.size w w' := by
  obtain ⟨s0, _⟩ := bounds_u8 hr.seats
  obtain ⟨c0, _⟩ := bounds_u8 hr.classes
  obtain ⟨g0, _⟩ := bounds_u8 hd.seats
  go_enter Try.func4, Try.ntmps4
  go_wp2
  go_region_held3 (fun w' => ((∀ i : Nat, w'.cell? ⟨w.heap.size, i, none⟩ = (#[.int .i64 c.q, .int .i64 c.d, .int .i64 c.w, .int .i64 c.ttl, .int .i64 c.b] : Array Value)[i]?) ∧ (∀ i : Nat, w'.cell? ⟨w.heap.size + 1, i, none⟩ = (#[.int .u8 r.i0, .int .u8 r.i1, .int .u8 r.i2, .int .u8 r.i3, .int .u8 r.i4, .int .u8 r.i5, .int .u8 r.i6, .int .u8 r.i7, .int .i16 r.fx, .int .i16 r.fy, .int .i16 r.tx, .int .i16 r.ty, .int .u8 r.seats, .int .u8 r.classes, .int .i64 r.base, .int .i64 r.ttl] : Array Value)[i]?) ∧ (∀ i : Nat, w'.cell? ⟨w.heap.size + 2, i, none⟩ = (#[.int .u8 d.i0, .int .u8 d.i1, .int .u8 d.i2, .int .u8 d.i3, .int .u8 d.i4, .int .u8 d.i5, .int .u8 d.i6, .int .u8 d.i7, .int .i16 d.ax, .int .i16 d.ay, .int .u8 d.seats, .int .u8 d.cls, .int .i64 d.radius] : Array Value)[i]?) ∧ w.heap.size < w'.heap.size ∧ w.heap.size + 1 < w'.heap.size ∧ w.heap.size + 2 < w'.heap.size ∧ Below w.heap.size w w') ∧ (LA 36 (.pointer (some ⟨w.heap.size, 0, none⟩))).run Try.prog w' = .ok (.agg #[.int .i64 c.q, .int .i64 c.d, .int .i64 c.w, .int .i64 c.ttl, .int .i64 c.b]) w' ∧ (LA 28 (.pointer (some ⟨w.heap.size + 1, 0, none⟩))).run Try.prog w' = .ok (.agg #[.int .u8 r.i0, .int .u8 r.i1, .int .u8 r.i2, .int .u8 r.i3, .int .u8 r.i4, .int .u8 r.i5, .int .u8 r.i6, .int .u8 r.i7, .int .i16 r.fx, .int .i16 r.fy, .int .i16 r.tx, .int .i16 r.ty, .int .u8 r.seats, .int .u8 r.classes, .int .i64 r.base, .int .i64 r.ttl]) w' ∧ (LA 30 (.pointer (some ⟨w.heap.size + 2, 0, none⟩))).run Try.prog w' = .ok (.agg #[.int .u8 d.i0, .int .u8 d.i1, .int .u8 d.i2, .int .u8 d.i3, .int .u8 d.i4, .int .u8 d.i5, .int .u8 d.i6, .int .u8 d.i7, .int .i16 d.ax, .int .i16 d.ay, .int .u8 d.seats, .int .u8 d.cls, .int .i64 d.radius]) w') (first | exact ext rfl rfl rfl (begin3 _ _ _ _ _ _ _) | exact ext rfl rfl rfl (kept3 hb (And.left (by assumption)))) (first | (go_at_call 14; refine (config_c c _).mono ?_; rintro e w' ⟨rfl, hb⟩; (replace hb := grow hb)) | (go_at_call 15; refine (refConfig_c c _).mono ?_; rintro e w' ⟨rfl, hb⟩; (replace hb := grow hb)) | (go_at_call 16; refine (check_c c r _ s0 c0).mono ?_; rintro e w' ⟨rfl, hb⟩) | (go_at_call 17; refine (refCheck_c c r _ s0 c0).mono ?_; rintro e w' ⟨rfl, hb⟩) | (go_at_call 18; refine (checkDriver_c d _ g0).mono ?_; rintro e w' ⟨rfl, hb⟩) | (go_at_call 19; refine (refCheckDriver_c d _ g0).mono ?_; rintro e w' ⟨rfl, hb⟩))
  go_wp2
  go_ret
  exact ⟨rfl, end3 (And.left (by assumption))⟩
end Go.Proofs.Yteeocipidlnnlaa.FMays
