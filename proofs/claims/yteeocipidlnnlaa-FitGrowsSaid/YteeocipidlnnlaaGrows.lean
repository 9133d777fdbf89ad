/- The walk of FitGrows. -/
import Derived.Test.YteeocipidlnnlaaAliveF
namespace Go.Proofs.Yteeocipidlnnlaa.Grows
open Go.RowKit Go.Proofs.Yteeocipidlnnlaa.Aid Go.Proofs.Yteeocipidlnnlaa.Mem Go.Proofs.Yteeocipidlnnlaa.Dist Go.Proofs.Yteeocipidlnnlaa.Types Go.Proofs.Yteeocipidlnnlaa.Fit Go.Proofs.Yteeocipidlnnlaa.RefFit Go.Proofs.Yteeocipidlnnlaa.Fits Go.Proofs.Yteeocipidlnnlaa.Keep Go.Proofs.Yteeocipidlnnlaa.Pair1 Go.Proofs.Yteeocipidlnnlaa.AliveF
set_option linter.unusedSimpArgs false
set_option linter.unusedVariables false
attribute [local go_sem ↓] Keep.load_req Keep.load_drv
/-- The three parameters, boxed, as they stand. -/
def KG (w0 w : World) (r : Req) (d : Drv) (m : More) : Prop := Blk w w0.heap.size 28 [.int .u8 r.i0, .int .u8 r.i1, .int .u8 r.i2, .int .u8 r.i3, .int .u8 r.i4, .int .u8 r.i5, .int .u8 r.i6, .int .u8 r.i7, .int .i16 r.fx, .int .i16 r.fy, .int .i16 r.tx, .int .i16 r.ty, .int .u8 r.seats, .int .u8 r.classes, .int .i64 r.base, .int .i64 r.ttl] ∧ Blk w (w0.heap.size + 1) 30 [.int .u8 d.i0, .int .u8 d.i1, .int .u8 d.i2, .int .u8 d.i3, .int .u8 d.i4, .int .u8 d.i5, .int .u8 d.i6, .int .u8 d.i7, .int .i16 d.ax, .int .i16 d.ay, .int .u8 d.seats, .int .u8 d.cls, .int .i64 d.radius] ∧ Blk w (w0.heap.size + 2) 43 [.int .u8 m.seats, .int .u8 m.fewer, .int .u8 m.classes, .int .i64 m.radius] ∧ Below w0.heap.size w0 w
section
variable {w0 w w' : World} {r : Req} {d : Drv} {m : More}
theorem KG.keep (h : KG w0 w r d m) (hb : Below w.heap.size w w') : KG w0 w' r d m := ⟨h.1.keep hb, h.2.1.keep hb, h.2.2.1.keep hb, kbt h.2.2.2 hb⟩
theorem KG.start (w : World) (r : Req) (d : Drv) (m : More) : KG w (((w.alloc (.cells #[.int .u8 r.i0, .int .u8 r.i1, .int .u8 r.i2, .int .u8 r.i3, .int .u8 r.i4, .int .u8 r.i5, .int .u8 r.i6, .int .u8 r.i7, .int .i16 r.fx, .int .i16 r.fy, .int .i16 r.tx, .int .i16 r.ty, .int .u8 r.seats, .int .u8 r.classes, .int .i64 r.base, .int .i64 r.ttl] 28)).alloc (.cells #[.int .u8 d.i0, .int .u8 d.i1, .int .u8 d.i2, .int .u8 d.i3, .int .u8 d.i4, .int .u8 d.i5, .int .u8 d.i6, .int .u8 d.i7, .int .i16 d.ax, .int .i16 d.ay, .int .u8 d.seats, .int .u8 d.cls, .int .i64 d.radius] 30)).alloc (.cells #[.int .u8 m.seats, .int .u8 m.fewer, .int .u8 m.classes, .int .i64 m.radius] 43)) r d m := by
  refine ⟨((Blk.new w 28 [.int .u8 r.i0, .int .u8 r.i1, .int .u8 r.i2, .int .u8 r.i3, .int .u8 r.i4, .int .u8 r.i5, .int .u8 r.i6, .int .u8 r.i7, .int .i16 r.fx, .int .i16 r.fy, .int .i16 r.tx, .int .i16 r.ty, .int .u8 r.seats, .int .u8 r.classes, .int .i64 r.base, .int .i64 r.ttl]).alloc _).alloc _, (blk_next w _ 30 [.int .u8 d.i0, .int .u8 d.i1, .int .u8 d.i2, .int .u8 d.i3, .int .u8 d.i4, .int .u8 d.i5, .int .u8 d.i6, .int .u8 d.i7, .int .i16 d.ax, .int .i16 d.ay, .int .u8 d.seats, .int .u8 d.cls, .int .i64 d.radius]).alloc _, ?_, kba (kba (kba (Below.refl _ _) _) _) _⟩
  have := blk_next (w.alloc (.cells #[.int .u8 r.i0, .int .u8 r.i1, .int .u8 r.i2, .int .u8 r.i3, .int .u8 r.i4, .int .u8 r.i5, .int .u8 r.i6, .int .u8 r.i7, .int .i16 r.fx, .int .i16 r.fy, .int .i16 r.tx, .int .i16 r.ty, .int .u8 r.seats, .int .u8 r.classes, .int .i64 r.base, .int .i64 r.ttl] 28)) (.cells #[.int .u8 d.i0, .int .u8 d.i1, .int .u8 d.i2, .int .u8 d.i3, .int .u8 d.i4, .int .u8 d.i5, .int .u8 d.i6, .int .u8 d.i7, .int .i16 d.ax, .int .i16 d.ay, .int .u8 d.seats, .int .u8 d.cls, .int .i64 d.radius] 30) 43 [.int .u8 m.seats, .int .u8 m.fewer, .int .u8 m.classes, .int .i64 m.radius]
  rw [size_alloc] at this
  exact this
theorem KG.lr (h : KG w0 w r d m) : (LA 28 (.pointer (some ⟨w0.heap.size, 0, none⟩))).run Try.prog w = .ok (.agg #[.int .u8 r.i0, .int .u8 r.i1, .int .u8 r.i2, .int .u8 r.i3, .int .u8 r.i4, .int .u8 r.i5, .int .u8 r.i6, .int .u8 r.i7, .int .i16 r.fx, .int .i16 r.fy, .int .i16 r.tx, .int .i16 r.ty, .int .u8 r.seats, .int .u8 r.classes, .int .i64 r.base, .int .i64 r.ttl]) w :=
  loads_blk (s := []) Try.underlying28 rfl (by show _ = some 16; kernel_rfl) h.1
theorem KG.ld (h : KG w0 w r d m) : (LA 30 (.pointer (some ⟨w0.heap.size + 1, 0, none⟩))).run Try.prog w = .ok (.agg #[.int .u8 d.i0, .int .u8 d.i1, .int .u8 d.i2, .int .u8 d.i3, .int .u8 d.i4, .int .u8 d.i5, .int .u8 d.i6, .int .u8 d.i7, .int .i16 d.ax, .int .i16 d.ay, .int .u8 d.seats, .int .u8 d.cls, .int .i64 d.radius]) w :=
  loads_blk (s := []) Try.underlying30 rfl (by show _ = some 13; kernel_rfl) h.2.1
theorem KG.m0 (h : KG w0 w r d m) : w.cell? ⟨w0.heap.size + 2, 0, none⟩ = some (.int .u8 m.seats) := h.2.2.1.cellv (i := 0) rfl
theorem KG.m1 (h : KG w0 w r d m) : w.cell? ⟨w0.heap.size + 2, 1, none⟩ = some (.int .u8 m.fewer) := h.2.2.1.cellv (i := 1) rfl
theorem KG.m2 (h : KG w0 w r d m) : w.cell? ⟨w0.heap.size + 2, 2, none⟩ = some (.int .u8 m.classes) := h.2.2.1.cellv (i := 2) rfl
theorem KG.m3 (h : KG w0 w r d m) : w.cell? ⟨w0.heap.size + 2, 3, none⟩ = some (.int .i64 m.radius) := h.2.2.1.cellv (i := 3) rfl
theorem KG.lt (h : KG w0 w r d m) : w0.heap.size + 1 + 1 < w.heap.size := h.2.2.1.lt
theorem KG.lt1 (h : KG w0 w r d m) : w0.heap.size + 1 < w.heap.size := Nat.lt_of_succ_lt h.2.2.1.lt
theorem KG.bel (h : KG w0 w r d m) : Below w0.heap.size w0 w := h.2.2.2
end
theorem fits_w (r : Req) (d : Drv) (w : World) (hr : Rok r) (hd : Dok d) : Calls Try.prog 12 #[r.val, d.val] w fun e w' => e = .returned (.bool (why r d == 0)) ∧ Below w.heap.size w w' := fits_c r d w hr hd
theorem fin_r (w1 : World) (r : Req) (d : Drv) : (LA 28 (.pointer (some ⟨w1.heap.size, 0, none⟩))).run Try.prog ((w1.alloc (.cells #[.int .u8 r.i0, .int .u8 r.i1, .int .u8 r.i2, .int .u8 r.i3, .int .u8 r.i4, .int .u8 r.i5, .int .u8 r.i6, .int .u8 r.i7, .int .i16 r.fx, .int .i16 r.fy, .int .i16 r.tx, .int .i16 r.ty, .int .u8 r.seats, .int .u8 r.classes, .int .i64 r.base, .int .i64 r.ttl] 28)).alloc (.cells #[.int .u8 d.i0, .int .u8 d.i1, .int .u8 d.i2, .int .u8 d.i3, .int .u8 d.i4, .int .u8 d.i5, .int .u8 d.i6, .int .u8 d.i7, .int .i16 d.ax, .int .i16 d.ay, .int .u8 d.seats, .int .u8 d.cls, .int .i64 d.radius] 30)) = .ok (.agg #[.int .u8 r.i0, .int .u8 r.i1, .int .u8 r.i2, .int .u8 r.i3, .int .u8 r.i4, .int .u8 r.i5, .int .u8 r.i6, .int .u8 r.i7, .int .i16 r.fx, .int .i16 r.fy, .int .i16 r.tx, .int .i16 r.ty, .int .u8 r.seats, .int .u8 r.classes, .int .i64 r.base, .int .i64 r.ttl]) ((w1.alloc (.cells #[.int .u8 r.i0, .int .u8 r.i1, .int .u8 r.i2, .int .u8 r.i3, .int .u8 r.i4, .int .u8 r.i5, .int .u8 r.i6, .int .u8 r.i7, .int .i16 r.fx, .int .i16 r.fy, .int .i16 r.tx, .int .i16 r.ty, .int .u8 r.seats, .int .u8 r.classes, .int .i64 r.base, .int .i64 r.ttl] 28)).alloc (.cells #[.int .u8 d.i0, .int .u8 d.i1, .int .u8 d.i2, .int .u8 d.i3, .int .u8 d.i4, .int .u8 d.i5, .int .u8 d.i6, .int .u8 d.i7, .int .i16 d.ax, .int .i16 d.ay, .int .u8 d.seats, .int .u8 d.cls, .int .i64 d.radius] 30)) :=
  loads_blk (s := []) Try.underlying28 rfl (by show _ = some 16; kernel_rfl) ((Blk.new w1 28 [.int .u8 r.i0, .int .u8 r.i1, .int .u8 r.i2, .int .u8 r.i3, .int .u8 r.i4, .int .u8 r.i5, .int .u8 r.i6, .int .u8 r.i7, .int .i16 r.fx, .int .i16 r.fy, .int .i16 r.tx, .int .i16 r.ty, .int .u8 r.seats, .int .u8 r.classes, .int .i64 r.base, .int .i64 r.ttl]).alloc _)
theorem fin_d (w1 : World) (r : Req) (d : Drv) : (LA 30 (.pointer (some ⟨w1.heap.size + 1, 0, none⟩))).run Try.prog ((w1.alloc (.cells #[.int .u8 r.i0, .int .u8 r.i1, .int .u8 r.i2, .int .u8 r.i3, .int .u8 r.i4, .int .u8 r.i5, .int .u8 r.i6, .int .u8 r.i7, .int .i16 r.fx, .int .i16 r.fy, .int .i16 r.tx, .int .i16 r.ty, .int .u8 r.seats, .int .u8 r.classes, .int .i64 r.base, .int .i64 r.ttl] 28)).alloc (.cells #[.int .u8 d.i0, .int .u8 d.i1, .int .u8 d.i2, .int .u8 d.i3, .int .u8 d.i4, .int .u8 d.i5, .int .u8 d.i6, .int .u8 d.i7, .int .i16 d.ax, .int .i16 d.ay, .int .u8 d.seats, .int .u8 d.cls, .int .i64 d.radius] 30)) = .ok (.agg #[.int .u8 d.i0, .int .u8 d.i1, .int .u8 d.i2, .int .u8 d.i3, .int .u8 d.i4, .int .u8 d.i5, .int .u8 d.i6, .int .u8 d.i7, .int .i16 d.ax, .int .i16 d.ay, .int .u8 d.seats, .int .u8 d.cls, .int .i64 d.radius]) ((w1.alloc (.cells #[.int .u8 r.i0, .int .u8 r.i1, .int .u8 r.i2, .int .u8 r.i3, .int .u8 r.i4, .int .u8 r.i5, .int .u8 r.i6, .int .u8 r.i7, .int .i16 r.fx, .int .i16 r.fy, .int .i16 r.tx, .int .i16 r.ty, .int .u8 r.seats, .int .u8 r.classes, .int .i64 r.base, .int .i64 r.ttl] 28)).alloc (.cells #[.int .u8 d.i0, .int .u8 d.i1, .int .u8 d.i2, .int .u8 d.i3, .int .u8 d.i4, .int .u8 d.i5, .int .u8 d.i6, .int .u8 d.i7, .int .i16 d.ax, .int .i16 d.ay, .int .u8 d.seats, .int .u8 d.cls, .int .i64 d.radius] 30)) :=
  loads_blk (s := []) Try.underlying30 rfl (by show _ = some 13; kernel_rfl) (blk_next w1 _ 30 [.int .u8 d.i0, .int .u8 d.i1, .int .u8 d.i2, .int .u8 d.i3, .int .u8 d.i4, .int .u8 d.i5, .int .u8 d.i6, .int .u8 d.i7, .int .i16 d.ax, .int .i16 d.ay, .int .u8 d.seats, .int .u8 d.cls, .int .i64 d.radius])
set_option maxHeartbeats 8000000 in
set_option maxRecDepth 100000 in
theorem g1 (r : Req) (d : Drv) (m : More) (w : World) (kr : Rok r) (kd : Dok d) (ks : Rok { r with seats := 0, classes := bits .or .u8 r.classes m.classes }) (ke : Dok { d with seats := m.seats, radius := m.radius }) (m0 : 0 ≤ m.fewer ∧ m.fewer ≤ 255) (h1 : r.seats ≤ m.fewer) (h2 : d.seats < m.seats) (h3 : d.radius < m.radius)
    (z : (bits .and .u8 (why { r with seats := 0, classes := bits .or .u8 r.classes m.classes } { d with seats := m.seats, radius := m.radius }) (why r d) == why { r with seats := 0, classes := bits .or .u8 r.classes m.classes } { d with seats := m.seats, radius := m.radius }) = true) :
    Calls Try.prog 5 #[r.val, d.val, m.val] w fun e w' => e = .returned (.bool true) ∧ Below w.heap.size w w' := by
  obtain ⟨m00, m01⟩ := m0
  obtain ⟨r00, r01⟩ := kr.seats
  have k := KG.start w r d m
  have lr := k.lr
  have ld := k.ld
  have y0 : 0 ≤ why r d := by unfold why; repeat' split <;> omega
  have y1 : why r d ≤ 7 := by unfold why; repeat' split <;> omega
  have y2 : decide (7 < why r d) = false := by simp; omega
  go_enter Try.func5, Try.ntmps5
  go_wp2_with (first | (go_at_call 10; with_reducible refine (against_c r d _ kr kd).mono ?_; rintro e w' ⟨rfl, hb⟩; replace k := k.keep hb; replace lr := KG.lr k; replace ld := KG.ld k) | (go_at_call 20; with_reducible refine (alive_c _).mono ?_; rintro e w' ⟨rfl, hb⟩; replace k := k.keep hb; replace lr := KG.lr k; replace ld := KG.ld k) | (go_at_call 12; with_reducible refine (fits_w r d _ kr kd).mono ?_; rintro e w' ⟨rfl, hb⟩; replace k := k.keep hb; replace lr := KG.lr k; replace ld := KG.ld k; have m0 := KG.m0 k; have m1 := KG.m1 k; have m2 := KG.m2 k; have m3 := KG.m3 k; have lt := KG.lt k; have lt1 := KG.lt1 k; have la := fun o => KG.ld (k.keep (alloc_below w' o)); have kb := KG.bel k; clear hb; have f1 := fin_r w' { r with seats := 0, classes := bits .or .u8 r.classes m.classes } { d with seats := m.seats, radius := m.radius }; have f2 := fin_d w' { r with seats := 0, classes := bits .or .u8 r.classes m.classes } { d with seats := m.seats, radius := m.radius }; dsimp only at f1 f2)     | (go_at_call 10; with_reducible refine (against_c { r with seats := 0, classes := bits .or .u8 r.classes m.classes } { d with seats := m.seats, radius := m.radius } _ ks ke).mono ?_; rintro e w' ⟨rfl, hb⟩))
  go_ret
  exact ⟨rfl, kbt (kba (kba kb _) _) hb⟩
set_option maxHeartbeats 8000000 in
set_option maxRecDepth 100000 in
theorem g2 (r : Req) (d : Drv) (m : More) (w : World) (kr : Rok r) (kd : Dok d) (ks : Rok { r with seats := 0, classes := bits .or .u8 r.classes m.classes }) (ke : Dok { d with seats := m.seats, radius := d.radius }) (m0 : 0 ≤ m.fewer ∧ m.fewer ≤ 255) (h1 : r.seats ≤ m.fewer) (h2 : d.seats < m.seats) (h3 : m.radius ≤ d.radius)
    (z : (bits .and .u8 (why { r with seats := 0, classes := bits .or .u8 r.classes m.classes } { d with seats := m.seats, radius := d.radius }) (why r d) == why { r with seats := 0, classes := bits .or .u8 r.classes m.classes } { d with seats := m.seats, radius := d.radius }) = true) :
    Calls Try.prog 5 #[r.val, d.val, m.val] w fun e w' => e = .returned (.bool true) ∧ Below w.heap.size w w' := by
  obtain ⟨m00, m01⟩ := m0
  obtain ⟨r00, r01⟩ := kr.seats
  have k := KG.start w r d m
  have lr := k.lr
  have ld := k.ld
  have y0 : 0 ≤ why r d := by unfold why; repeat' split <;> omega
  have y1 : why r d ≤ 7 := by unfold why; repeat' split <;> omega
  have y2 : decide (7 < why r d) = false := by simp; omega
  go_enter Try.func5, Try.ntmps5
  go_wp2_with (first | (go_at_call 10; with_reducible refine (against_c r d _ kr kd).mono ?_; rintro e w' ⟨rfl, hb⟩; replace k := k.keep hb; replace lr := KG.lr k; replace ld := KG.ld k) | (go_at_call 20; with_reducible refine (alive_c _).mono ?_; rintro e w' ⟨rfl, hb⟩; replace k := k.keep hb; replace lr := KG.lr k; replace ld := KG.ld k) | (go_at_call 12; with_reducible refine (fits_w r d _ kr kd).mono ?_; rintro e w' ⟨rfl, hb⟩; replace k := k.keep hb; replace lr := KG.lr k; replace ld := KG.ld k; have m0 := KG.m0 k; have m1 := KG.m1 k; have m2 := KG.m2 k; have m3 := KG.m3 k; have lt := KG.lt k; have lt1 := KG.lt1 k; have la := fun o => KG.ld (k.keep (alloc_below w' o)); have kb := KG.bel k; clear hb; have f1 := fin_r w' { r with seats := 0, classes := bits .or .u8 r.classes m.classes } { d with seats := m.seats, radius := d.radius }; have f2 := fin_d w' { r with seats := 0, classes := bits .or .u8 r.classes m.classes } { d with seats := m.seats, radius := d.radius }; dsimp only at f1 f2)     | (go_at_call 10; with_reducible refine (against_c { r with seats := 0, classes := bits .or .u8 r.classes m.classes } { d with seats := m.seats, radius := d.radius } _ ks ke).mono ?_; rintro e w' ⟨rfl, hb⟩))
  go_ret
  exact ⟨rfl, kbt (kba (kba kb _) _) hb⟩
set_option maxHeartbeats 8000000 in
set_option maxRecDepth 100000 in
theorem g3 (r : Req) (d : Drv) (m : More) (w : World) (kr : Rok r) (kd : Dok d) (ks : Rok { r with seats := 0, classes := bits .or .u8 r.classes m.classes }) (ke : Dok { d with seats := d.seats, radius := m.radius }) (m0 : 0 ≤ m.fewer ∧ m.fewer ≤ 255) (h1 : r.seats ≤ m.fewer) (h2 : m.seats ≤ d.seats) (h3 : d.radius < m.radius)
    (z : (bits .and .u8 (why { r with seats := 0, classes := bits .or .u8 r.classes m.classes } { d with seats := d.seats, radius := m.radius }) (why r d) == why { r with seats := 0, classes := bits .or .u8 r.classes m.classes } { d with seats := d.seats, radius := m.radius }) = true) :
    Calls Try.prog 5 #[r.val, d.val, m.val] w fun e w' => e = .returned (.bool true) ∧ Below w.heap.size w w' := by
  obtain ⟨m00, m01⟩ := m0
  obtain ⟨r00, r01⟩ := kr.seats
  have k := KG.start w r d m
  have lr := k.lr
  have ld := k.ld
  have y0 : 0 ≤ why r d := by unfold why; repeat' split <;> omega
  have y1 : why r d ≤ 7 := by unfold why; repeat' split <;> omega
  have y2 : decide (7 < why r d) = false := by simp; omega
  go_enter Try.func5, Try.ntmps5
  go_wp2_with (first | (go_at_call 10; with_reducible refine (against_c r d _ kr kd).mono ?_; rintro e w' ⟨rfl, hb⟩; replace k := k.keep hb; replace lr := KG.lr k; replace ld := KG.ld k) | (go_at_call 20; with_reducible refine (alive_c _).mono ?_; rintro e w' ⟨rfl, hb⟩; replace k := k.keep hb; replace lr := KG.lr k; replace ld := KG.ld k) | (go_at_call 12; with_reducible refine (fits_w r d _ kr kd).mono ?_; rintro e w' ⟨rfl, hb⟩; replace k := k.keep hb; replace lr := KG.lr k; replace ld := KG.ld k; have m0 := KG.m0 k; have m1 := KG.m1 k; have m2 := KG.m2 k; have m3 := KG.m3 k; have lt := KG.lt k; have lt1 := KG.lt1 k; have la := fun o => KG.ld (k.keep (alloc_below w' o)); have kb := KG.bel k; clear hb; have f1 := fin_r w' { r with seats := 0, classes := bits .or .u8 r.classes m.classes } { d with seats := d.seats, radius := m.radius }; have f2 := fin_d w' { r with seats := 0, classes := bits .or .u8 r.classes m.classes } { d with seats := d.seats, radius := m.radius }; dsimp only at f1 f2)     | (go_at_call 10; with_reducible refine (against_c { r with seats := 0, classes := bits .or .u8 r.classes m.classes } { d with seats := d.seats, radius := m.radius } _ ks ke).mono ?_; rintro e w' ⟨rfl, hb⟩))
  go_ret
  exact ⟨rfl, kbt (kba (kba kb _) _) hb⟩
set_option maxHeartbeats 8000000 in
set_option maxRecDepth 100000 in
theorem g4 (r : Req) (d : Drv) (m : More) (w : World) (kr : Rok r) (kd : Dok d) (ks : Rok { r with seats := 0, classes := bits .or .u8 r.classes m.classes }) (ke : Dok { d with seats := d.seats, radius := d.radius }) (m0 : 0 ≤ m.fewer ∧ m.fewer ≤ 255) (h1 : r.seats ≤ m.fewer) (h2 : m.seats ≤ d.seats) (h3 : m.radius ≤ d.radius)
    (z : (bits .and .u8 (why { r with seats := 0, classes := bits .or .u8 r.classes m.classes } { d with seats := d.seats, radius := d.radius }) (why r d) == why { r with seats := 0, classes := bits .or .u8 r.classes m.classes } { d with seats := d.seats, radius := d.radius }) = true) :
    Calls Try.prog 5 #[r.val, d.val, m.val] w fun e w' => e = .returned (.bool true) ∧ Below w.heap.size w w' := by
  obtain ⟨m00, m01⟩ := m0
  obtain ⟨r00, r01⟩ := kr.seats
  have k := KG.start w r d m
  have lr := k.lr
  have ld := k.ld
  have y0 : 0 ≤ why r d := by unfold why; repeat' split <;> omega
  have y1 : why r d ≤ 7 := by unfold why; repeat' split <;> omega
  have y2 : decide (7 < why r d) = false := by simp; omega
  go_enter Try.func5, Try.ntmps5
  go_wp2_with (first | (go_at_call 10; with_reducible refine (against_c r d _ kr kd).mono ?_; rintro e w' ⟨rfl, hb⟩; replace k := k.keep hb; replace lr := KG.lr k; replace ld := KG.ld k) | (go_at_call 20; with_reducible refine (alive_c _).mono ?_; rintro e w' ⟨rfl, hb⟩; replace k := k.keep hb; replace lr := KG.lr k; replace ld := KG.ld k) | (go_at_call 12; with_reducible refine (fits_w r d _ kr kd).mono ?_; rintro e w' ⟨rfl, hb⟩; replace k := k.keep hb; replace lr := KG.lr k; replace ld := KG.ld k; have m0 := KG.m0 k; have m1 := KG.m1 k; have m2 := KG.m2 k; have m3 := KG.m3 k; have lt := KG.lt k; have lt1 := KG.lt1 k; have la := fun o => KG.ld (k.keep (alloc_below w' o)); have kb := KG.bel k; clear hb; have f1 := fin_r w' { r with seats := 0, classes := bits .or .u8 r.classes m.classes } { d with seats := d.seats, radius := d.radius }; have f2 := fin_d w' { r with seats := 0, classes := bits .or .u8 r.classes m.classes } { d with seats := d.seats, radius := d.radius }; dsimp only at f1 f2)     | (go_at_call 10; with_reducible refine (against_c { r with seats := 0, classes := bits .or .u8 r.classes m.classes } { d with seats := d.seats, radius := d.radius } _ ks ke).mono ?_; rintro e w' ⟨rfl, hb⟩))
  go_ret
  exact ⟨rfl, kbt (kba (kba kb _) _) hb⟩
set_option maxHeartbeats 8000000 in
set_option maxRecDepth 100000 in
theorem g5 (r : Req) (d : Drv) (m : More) (w : World) (kr : Rok r) (kd : Dok d) (ks : Rok { r with seats := r.seats - m.fewer, classes := bits .or .u8 r.classes m.classes }) (ke : Dok { d with seats := m.seats, radius := m.radius }) (m0 : 0 ≤ m.fewer ∧ m.fewer ≤ 255) (h1 : m.fewer < r.seats) (h2 : d.seats < m.seats) (h3 : d.radius < m.radius)
    (z : (bits .and .u8 (why { r with seats := r.seats - m.fewer, classes := bits .or .u8 r.classes m.classes } { d with seats := m.seats, radius := m.radius }) (why r d) == why { r with seats := r.seats - m.fewer, classes := bits .or .u8 r.classes m.classes } { d with seats := m.seats, radius := m.radius }) = true) :
    Calls Try.prog 5 #[r.val, d.val, m.val] w fun e w' => e = .returned (.bool true) ∧ Below w.heap.size w w' := by
  obtain ⟨m00, m01⟩ := m0
  obtain ⟨r00, r01⟩ := kr.seats
  have k := KG.start w r d m
  have lr := k.lr
  have ld := k.ld
  have y0 : 0 ≤ why r d := by unfold why; repeat' split <;> omega
  have y1 : why r d ≤ 7 := by unfold why; repeat' split <;> omega
  have y2 : decide (7 < why r d) = false := by simp; omega
  go_enter Try.func5, Try.ntmps5
  go_wp2_with (first | (go_at_call 10; with_reducible refine (against_c r d _ kr kd).mono ?_; rintro e w' ⟨rfl, hb⟩; replace k := k.keep hb; replace lr := KG.lr k; replace ld := KG.ld k) | (go_at_call 20; with_reducible refine (alive_c _).mono ?_; rintro e w' ⟨rfl, hb⟩; replace k := k.keep hb; replace lr := KG.lr k; replace ld := KG.ld k) | (go_at_call 12; with_reducible refine (fits_w r d _ kr kd).mono ?_; rintro e w' ⟨rfl, hb⟩; replace k := k.keep hb; replace lr := KG.lr k; replace ld := KG.ld k; have m0 := KG.m0 k; have m1 := KG.m1 k; have m2 := KG.m2 k; have m3 := KG.m3 k; have lt := KG.lt k; have lt1 := KG.lt1 k; have la := fun o => KG.ld (k.keep (alloc_below w' o)); have kb := KG.bel k; clear hb; have f1 := fin_r w' { r with seats := r.seats - m.fewer, classes := bits .or .u8 r.classes m.classes } { d with seats := m.seats, radius := m.radius }; have f2 := fin_d w' { r with seats := r.seats - m.fewer, classes := bits .or .u8 r.classes m.classes } { d with seats := m.seats, radius := m.radius }; dsimp only at f1 f2)     | (go_at_call 10; with_reducible refine (against_c { r with seats := r.seats - m.fewer, classes := bits .or .u8 r.classes m.classes } { d with seats := m.seats, radius := m.radius } _ ks ke).mono ?_; rintro e w' ⟨rfl, hb⟩))
  go_ret
  exact ⟨rfl, kbt (kba (kba kb _) _) hb⟩
set_option maxHeartbeats 8000000 in
set_option maxRecDepth 100000 in
theorem g6 (r : Req) (d : Drv) (m : More) (w : World) (kr : Rok r) (kd : Dok d) (ks : Rok { r with seats := r.seats - m.fewer, classes := bits .or .u8 r.classes m.classes }) (ke : Dok { d with seats := m.seats, radius := d.radius }) (m0 : 0 ≤ m.fewer ∧ m.fewer ≤ 255) (h1 : m.fewer < r.seats) (h2 : d.seats < m.seats) (h3 : m.radius ≤ d.radius)
    (z : (bits .and .u8 (why { r with seats := r.seats - m.fewer, classes := bits .or .u8 r.classes m.classes } { d with seats := m.seats, radius := d.radius }) (why r d) == why { r with seats := r.seats - m.fewer, classes := bits .or .u8 r.classes m.classes } { d with seats := m.seats, radius := d.radius }) = true) :
    Calls Try.prog 5 #[r.val, d.val, m.val] w fun e w' => e = .returned (.bool true) ∧ Below w.heap.size w w' := by
  obtain ⟨m00, m01⟩ := m0
  obtain ⟨r00, r01⟩ := kr.seats
  have k := KG.start w r d m
  have lr := k.lr
  have ld := k.ld
  have y0 : 0 ≤ why r d := by unfold why; repeat' split <;> omega
  have y1 : why r d ≤ 7 := by unfold why; repeat' split <;> omega
  have y2 : decide (7 < why r d) = false := by simp; omega
  go_enter Try.func5, Try.ntmps5
  go_wp2_with (first | (go_at_call 10; with_reducible refine (against_c r d _ kr kd).mono ?_; rintro e w' ⟨rfl, hb⟩; replace k := k.keep hb; replace lr := KG.lr k; replace ld := KG.ld k) | (go_at_call 20; with_reducible refine (alive_c _).mono ?_; rintro e w' ⟨rfl, hb⟩; replace k := k.keep hb; replace lr := KG.lr k; replace ld := KG.ld k) | (go_at_call 12; with_reducible refine (fits_w r d _ kr kd).mono ?_; rintro e w' ⟨rfl, hb⟩; replace k := k.keep hb; replace lr := KG.lr k; replace ld := KG.ld k; have m0 := KG.m0 k; have m1 := KG.m1 k; have m2 := KG.m2 k; have m3 := KG.m3 k; have lt := KG.lt k; have lt1 := KG.lt1 k; have la := fun o => KG.ld (k.keep (alloc_below w' o)); have kb := KG.bel k; clear hb; have f1 := fin_r w' { r with seats := r.seats - m.fewer, classes := bits .or .u8 r.classes m.classes } { d with seats := m.seats, radius := d.radius }; have f2 := fin_d w' { r with seats := r.seats - m.fewer, classes := bits .or .u8 r.classes m.classes } { d with seats := m.seats, radius := d.radius }; dsimp only at f1 f2)     | (go_at_call 10; with_reducible refine (against_c { r with seats := r.seats - m.fewer, classes := bits .or .u8 r.classes m.classes } { d with seats := m.seats, radius := d.radius } _ ks ke).mono ?_; rintro e w' ⟨rfl, hb⟩))
  go_ret
  exact ⟨rfl, kbt (kba (kba kb _) _) hb⟩
set_option maxHeartbeats 8000000 in
set_option maxRecDepth 100000 in
theorem g7 (r : Req) (d : Drv) (m : More) (w : World) (kr : Rok r) (kd : Dok d) (ks : Rok { r with seats := r.seats - m.fewer, classes := bits .or .u8 r.classes m.classes }) (ke : Dok { d with seats := d.seats, radius := m.radius }) (m0 : 0 ≤ m.fewer ∧ m.fewer ≤ 255) (h1 : m.fewer < r.seats) (h2 : m.seats ≤ d.seats) (h3 : d.radius < m.radius)
    (z : (bits .and .u8 (why { r with seats := r.seats - m.fewer, classes := bits .or .u8 r.classes m.classes } { d with seats := d.seats, radius := m.radius }) (why r d) == why { r with seats := r.seats - m.fewer, classes := bits .or .u8 r.classes m.classes } { d with seats := d.seats, radius := m.radius }) = true) :
    Calls Try.prog 5 #[r.val, d.val, m.val] w fun e w' => e = .returned (.bool true) ∧ Below w.heap.size w w' := by
  obtain ⟨m00, m01⟩ := m0
  obtain ⟨r00, r01⟩ := kr.seats
  have k := KG.start w r d m
  have lr := k.lr
  have ld := k.ld
  have y0 : 0 ≤ why r d := by unfold why; repeat' split <;> omega
  have y1 : why r d ≤ 7 := by unfold why; repeat' split <;> omega
  have y2 : decide (7 < why r d) = false := by simp; omega
  go_enter Try.func5, Try.ntmps5
  go_wp2_with (first | (go_at_call 10; with_reducible refine (against_c r d _ kr kd).mono ?_; rintro e w' ⟨rfl, hb⟩; replace k := k.keep hb; replace lr := KG.lr k; replace ld := KG.ld k) | (go_at_call 20; with_reducible refine (alive_c _).mono ?_; rintro e w' ⟨rfl, hb⟩; replace k := k.keep hb; replace lr := KG.lr k; replace ld := KG.ld k) | (go_at_call 12; with_reducible refine (fits_w r d _ kr kd).mono ?_; rintro e w' ⟨rfl, hb⟩; replace k := k.keep hb; replace lr := KG.lr k; replace ld := KG.ld k; have m0 := KG.m0 k; have m1 := KG.m1 k; have m2 := KG.m2 k; have m3 := KG.m3 k; have lt := KG.lt k; have lt1 := KG.lt1 k; have la := fun o => KG.ld (k.keep (alloc_below w' o)); have kb := KG.bel k; clear hb; have f1 := fin_r w' { r with seats := r.seats - m.fewer, classes := bits .or .u8 r.classes m.classes } { d with seats := d.seats, radius := m.radius }; have f2 := fin_d w' { r with seats := r.seats - m.fewer, classes := bits .or .u8 r.classes m.classes } { d with seats := d.seats, radius := m.radius }; dsimp only at f1 f2)     | (go_at_call 10; with_reducible refine (against_c { r with seats := r.seats - m.fewer, classes := bits .or .u8 r.classes m.classes } { d with seats := d.seats, radius := m.radius } _ ks ke).mono ?_; rintro e w' ⟨rfl, hb⟩))
  go_ret
  exact ⟨rfl, kbt (kba (kba kb _) _) hb⟩
set_option maxHeartbeats 8000000 in
set_option maxRecDepth 100000 in
theorem g8 (r : Req) (d : Drv) (m : More) (w : World) (kr : Rok r) (kd : Dok d) (ks : Rok { r with seats := r.seats - m.fewer, classes := bits .or .u8 r.classes m.classes }) (ke : Dok { d with seats := d.seats, radius := d.radius }) (m0 : 0 ≤ m.fewer ∧ m.fewer ≤ 255) (h1 : m.fewer < r.seats) (h2 : m.seats ≤ d.seats) (h3 : m.radius ≤ d.radius)
    (z : (bits .and .u8 (why { r with seats := r.seats - m.fewer, classes := bits .or .u8 r.classes m.classes } { d with seats := d.seats, radius := d.radius }) (why r d) == why { r with seats := r.seats - m.fewer, classes := bits .or .u8 r.classes m.classes } { d with seats := d.seats, radius := d.radius }) = true) :
    Calls Try.prog 5 #[r.val, d.val, m.val] w fun e w' => e = .returned (.bool true) ∧ Below w.heap.size w w' := by
  obtain ⟨m00, m01⟩ := m0
  obtain ⟨r00, r01⟩ := kr.seats
  have k := KG.start w r d m
  have lr := k.lr
  have ld := k.ld
  have y0 : 0 ≤ why r d := by unfold why; repeat' split <;> omega
  have y1 : why r d ≤ 7 := by unfold why; repeat' split <;> omega
  have y2 : decide (7 < why r d) = false := by simp; omega
  go_enter Try.func5, Try.ntmps5
  go_wp2_with (first | (go_at_call 10; with_reducible refine (against_c r d _ kr kd).mono ?_; rintro e w' ⟨rfl, hb⟩; replace k := k.keep hb; replace lr := KG.lr k; replace ld := KG.ld k) | (go_at_call 20; with_reducible refine (alive_c _).mono ?_; rintro e w' ⟨rfl, hb⟩; replace k := k.keep hb; replace lr := KG.lr k; replace ld := KG.ld k) | (go_at_call 12; with_reducible refine (fits_w r d _ kr kd).mono ?_; rintro e w' ⟨rfl, hb⟩; replace k := k.keep hb; replace lr := KG.lr k; replace ld := KG.ld k; have m0 := KG.m0 k; have m1 := KG.m1 k; have m2 := KG.m2 k; have m3 := KG.m3 k; have lt := KG.lt k; have lt1 := KG.lt1 k; have la := fun o => KG.ld (k.keep (alloc_below w' o)); have kb := KG.bel k; clear hb; have f1 := fin_r w' { r with seats := r.seats - m.fewer, classes := bits .or .u8 r.classes m.classes } { d with seats := d.seats, radius := d.radius }; have f2 := fin_d w' { r with seats := r.seats - m.fewer, classes := bits .or .u8 r.classes m.classes } { d with seats := d.seats, radius := d.radius }; dsimp only at f1 f2)     | (go_at_call 10; with_reducible refine (against_c { r with seats := r.seats - m.fewer, classes := bits .or .u8 r.classes m.classes } { d with seats := d.seats, radius := d.radius } _ ks ke).mono ?_; rintro e w' ⟨rfl, hb⟩))
  go_ret
  exact ⟨rfl, kbt (kba (kba kb _) _) hb⟩
end Go.Proofs.Yteeocipidlnnlaa.Grows
