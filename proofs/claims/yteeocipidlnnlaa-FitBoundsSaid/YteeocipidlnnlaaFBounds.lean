/- FitBounds: the blocks that its walks know. -/
import Derived.Test.YteeocipidlnnlaaAliveF
import Derived.Test.YteeocipidlnnlaaMays
import Derived.Test.YteeocipidlnnlaaHas
namespace Go.Proofs.Yteeocipidlnnlaa.FBounds
open Go.RowKit Go.Proofs.Yteeocipidlnnlaa.Aid Go.Proofs.Yteeocipidlnnlaa.Mem Go.Proofs.Yteeocipidlnnlaa.Types Go.Proofs.Yteeocipidlnnlaa.Fit Go.Proofs.Yteeocipidlnnlaa.Keep Go.Proofs.Yteeocipidlnnlaa.Mays Go.Proofs.Yteeocipidlnnlaa.AliveF Go.Proofs.Yteeocipidlnnlaa.Has
set_option linter.unusedSimpArgs false
set_option linter.unusedVariables false
set_option maxRecDepth 100000
attribute [local go_sem ↓] Keep.load_req Keep.load_cfg
def cL (c : Cfg) : List Value := [.int .i64 c.q, .int .i64 c.d, .int .i64 c.w, .int .i64 c.ttl, .int .i64 c.b]
def rL (r : Req) : List Value := [.int .u8 r.i0, .int .u8 r.i1, .int .u8 r.i2, .int .u8 r.i3, .int .u8 r.i4, .int .u8 r.i5, .int .u8 r.i6, .int .u8 r.i7, .int .i16 r.fx, .int .i16 r.fy, .int .i16 r.tx, .int .i16 r.ty, .int .u8 r.seats, .int .u8 r.classes, .int .i64 r.base, .int .i64 r.ttl]
/-- The parameter's box, the good configuration, the turned one, the request. -/
def KF (w0 : World) (b : Nat) (W : World) (c g x : Cfg) (r : Req) : Prop := Has w0 [(b + 1 + 1, 28, rL r), (b + 1, 36, cL x), (b, 36, cL g), (w0.heap.size, 36, cL c)] W ∧ w0.heap.size < b
section
variable {w0 w w' : World} {b : Nat} {c g x : Cfg} {r : Req}
theorem KF.start {w w1 : World} (c g x : Cfg) (r : Req) (h : Below (w.alloc (.cells (cL c).toArray 36)).heap.size (w.alloc (.cells (cL c).toArray 36)) w1) : KF w w1.heap.size (((w1.alloc (.cells (cL g).toArray 36)).alloc (.cells (cL x).toArray 36)).alloc (.cells (rL r).toArray 28)) c g x r := by
  have k0 := ((Has.nil w).new 36 (cL c)).keep h
  have k := ((k0.new 36 (cL g)).new 36 (cL x)).new 28 (rL r)
  rw [size_alloc, size_alloc] at k
  refine ⟨k, ?_⟩
  have := h.size
  rw [size_alloc] at this
  omega
theorem KF.keep (h : KF w0 b w c g x r) (hb : Below w.heap.size w w') : KF w0 b w' c g x r := ⟨Has.keep h.1 hb, h.2⟩
theorem KF.lc (h : KF w0 b w c g x r) : (LA 36 (.pointer (some ⟨w0.heap.size, 0, none⟩))).run Try.prog w = .ok c.val w :=
  Has.load (t' := 36) (l := cL c) (s := []) h.1 Try.underlying36 rfl (by show _ = some 5; kernel_rfl) (by simp)
theorem KF.lg (h : KF w0 b w c g x r) : (LA 36 (.pointer (some ⟨b, 0, none⟩))).run Try.prog w = .ok g.val w :=
  Has.load (t' := 36) (l := cL g) (s := []) h.1 Try.underlying36 rfl (by show _ = some 5; kernel_rfl) (by simp)
theorem KF.lx (h : KF w0 b w c g x r) : (LA 36 (.pointer (some ⟨b + 1, 0, none⟩))).run Try.prog w = .ok x.val w :=
  Has.load (t' := 36) (l := cL x) (s := []) h.1 Try.underlying36 rfl (by show _ = some 5; kernel_rfl) (by simp)
theorem KF.lr (h : KF w0 b w c g x r) : (LA 28 (.pointer (some ⟨b + 1 + 1, 0, none⟩))).run Try.prog w = .ok r.val w :=
  Has.load (t' := 28) (l := rL r) (s := []) h.1 Try.underlying28 rfl (by show _ = some 16; kernel_rfl) (by simp)
theorem KF.bel (h : KF w0 b w c g x r) : Below w0.heap.size w0 w := Has.bel h.1
theorem KF.br (h : KF w0 b w c g x r) : Blk w (b + 1 + 1) 28 (rL r) := h.1.1 (b + 1 + 1, 28, rL r) (by simp)
theorem KF.cells (h : KF w0 b w c g x r) : w.cell? ⟨b + 1 + 1, 14, none⟩ = some (.int .i64 r.base) ∧ w.cell? ⟨b + 1 + 1, 15, none⟩ = some (.int .i64 r.ttl) ∧ w.frozen? ⟨b + 1 + 1, 14, none⟩ = false ∧ w.frozen? ⟨b + 1 + 1, 15, none⟩ = false := ⟨h.br.cellv rfl, h.br.cellv rfl, h.br.free _, h.br.free _⟩
theorem KF.put (h : KF w0 b w c g x r) (m k : Int) : KF w0 b ((w.setCell ⟨b + 1 + 1, 14, none⟩ (.int .i64 m)).setCell ⟨b + 1 + 1, 15, none⟩ (.int .i64 k)) c g x { r with base := m, ttl := k } := by
  have hlt := h.2
  have far : ∀ (a : Nat) (t : TypeId) (l : List Value), a ≠ b + 1 + 1 → Blk w a t l → Blk ((w.setCell ⟨b + 1 + 1, 14, none⟩ (.int .i64 m)).setCell ⟨b + 1 + 1, 15, none⟩ (.int .i64 k)) a t l := fun a t l hne hb => (hb.far (p := ⟨b + 1 + 1, 14, none⟩) hne _).far (p := ⟨b + 1 + 1, 15, none⟩) hne _
  refine ⟨⟨fun y hy => ?_, ((h.bel.setCell (p := ⟨b + 1 + 1, 14, none⟩) (by show w0.heap.size ≤ b + 1 + 1; omega) _).setCell (p := ⟨b + 1 + 1, 15, none⟩) (by show w0.heap.size ≤ b + 1 + 1; omega) _)⟩, hlt⟩
  rcases List.mem_cons.1 hy with rfl | hy
  · exact (h.br.put 14 (.int .i64 m)).put 15 (.int .i64 k)
  · rcases List.mem_cons.1 hy with rfl | hy
    · exact far _ _ _ (by show b + 1 ≠ b + 1 + 1; omega) (h.1.1 (b + 1, 36, cL x) (by simp))
    · rcases List.mem_cons.1 hy with rfl | hy
      · exact far _ _ _ (by show b ≠ b + 1 + 1; omega) (h.1.1 (b, 36, cL g) (by simp))
      · rcases List.mem_cons.1 hy with rfl | hy
        · exact far _ _ _ (by show w0.heap.size ≠ b + 1 + 1; omega) (h.1.1 (w0.heap.size, 36, cL c) (by simp))
        · simp at hy
end
theorem check_v (c : Cfg) (r : Req) (w : World) (s0 : 0 ≤ r.seats) (c0 : 0 ≤ r.classes) (v : Int) (h : Hid (checkErr c r = v)) : Calls Try.prog 16 #[c.val, r.val] w fun e w' => e = .returned (.int .i64 v) ∧ Below w.heap.size w w' := by
  obtain rfl := h.out
  exact check_c c r w s0 c0
theorem drv_v (d : Drv) (w : World) (s0 : 0 ≤ d.seats) (v : Int) (h : Hid (drvErr d = v)) : Calls Try.prog 18 #[d.val] w fun e w' => e = .returned (.int .i64 v) ∧ Below w.heap.size w w' := by
  obtain rfl := h.out
  exact checkDriver_c d w s0
theorem lg0 (w1 : World) (g : Cfg) : (LA 36 (.pointer (some ⟨w1.heap.size, 0, none⟩))).run Try.prog (w1.alloc (.cells (cL g).toArray 36)) = .ok g.val (w1.alloc (.cells (cL g).toArray 36)) :=
  loads_box Try.underlying36 rfl (by show _ = some 5; kernel_rfl) (fun i => World.cell?_alloc_new w1 _ _ i)
end Go.Proofs.Yteeocipidlnnlaa.FBounds
