/- Contract of stats.Join. -/
import Derived.Test.YtmpjcjgdjimioaaJoinD
namespace Go.Proofs.Ytmpjcjgdjimioaa.Join
open Ieee Go.RowKit Go.Proofs.Ytmpjcjgdjimioaa.Aid Go.Proofs.Ytmpjcjgdjimioaa.Mem Go.Proofs.Ytmpjcjgdjimioaa.Nums Go.Proofs.Ytmpjcjgdjimioaa.Keep Go.Proofs.Ytmpjcjgdjimioaa.Has Go.Proofs.Ytmpjcjgdjimioaa.Recs Go.Proofs.Ytmpjcjgdjimioaa.Of Go.Proofs.Ytmpjcjgdjimioaa.Fl Go.Proofs.Ytmpjcjgdjimioaa.Fin Go.Proofs.Ytmpjcjgdjimioaa.RefOf Go.Proofs.Ytmpjcjgdjimioaa.SOf Go.Proofs.Ytmpjcjgdjimioaa.Quant Go.Proofs.Ytmpjcjgdjimioaa.Round Go.Proofs.Ytmpjcjgdjimioaa.May Go.Proofs.Ytmpjcjgdjimioaa.JoinP Go.Proofs.Ytmpjcjgdjimioaa.JoinD
set_option linter.unusedSimpArgs false
set_option linter.unusedVariables false
set_option maxRecDepth 100000
/-- The boxes of the two summaries, and that of the result. -/
def KJ (w : World) (a b : Su) (W : World) : Prop := Has w [(w.heap.size + 2, 25, Su.list zSu), (w.heap.size + 1, 25, b.list), (w.heap.size, 25, a.list)] W
section
variable {w W W' : World} {a b : Su}
theorem KJ.start (w : World) (a b : Su) : KJ w a b (((w.alloc (.cells #[.int .i64 a.c, .float .f64 a.m, .float .f64 a.v, .int .i64 a.l, .int .i64 a.o] 25)).alloc (.cells #[.int .i64 b.c, .float .f64 b.m, .float .f64 b.v, .int .i64 b.l, .int .i64 b.o] 25)).alloc (.cells #[.int .i64 0, .float .f64 0, .float .f64 0, .int .i64 0, .int .i64 0] 25)) := by
  have h := (((Has.nil w).new 25 a.list).new 25 b.list).new 25 (Su.list zSu)
  rw [size_alloc, size_alloc] at h
  exact h
theorem KJ.keep (h : KJ w a b W) (hb : Below W.heap.size W W') : KJ w a b W' := Has.keep h hb
theorem KJ.drewN (h : KJ w a b W) (n : Nat) : KJ w a b (W.drewN n) := ⟨fun x hx => (h.1 x hx).drewN n, below_drewN h.2 n⟩
theorem KJ.la (h : KJ w a b W) : (LA 25 (.pointer (some ⟨w.heap.size, 0, none⟩))).run Try.prog W = .ok (.agg #[.int .i64 a.c, .float .f64 a.m, .float .f64 a.v, .int .i64 a.l, .int .i64 a.o]) W :=
  Has.load (t' := 25) (l := a.list) (s := []) h Try.underlying25 rfl (by show _ = some 5; kernel_rfl) (by simp)
theorem KJ.lb (h : KJ w a b W) : (LA 25 (.pointer (some ⟨w.heap.size + 1, 0, none⟩))).run Try.prog W = .ok (.agg #[.int .i64 b.c, .float .f64 b.m, .float .f64 b.v, .int .i64 b.l, .int .i64 b.o]) W :=
  Has.load (t' := 25) (l := b.list) (s := []) h Try.underlying25 rfl (by show _ = some 5; kernel_rfl) (by simp)
theorem KJ.ca (h : KJ w a b W) (i : Nat) : W.cell? ⟨w.heap.size, i, none⟩ = a.list[i]? := Has.cell h (t := 25) (by simp) i
theorem KJ.cb (h : KJ w a b W) (i : Nat) : W.cell? ⟨w.heap.size + 1, i, none⟩ = b.list[i]? := Has.cell h (t := 25) (by simp) i
theorem KJ.cells (h : KJ w a b W) : (W.cell? ⟨w.heap.size, 0, none⟩ = some (.int .i64 a.c) ∧ W.cell? ⟨w.heap.size, 1, none⟩ = some (.float .f64 a.m) ∧ W.cell? ⟨w.heap.size, 2, none⟩ = some (.float .f64 a.v) ∧ W.cell? ⟨w.heap.size, 3, none⟩ = some (.int .i64 a.l) ∧ W.cell? ⟨w.heap.size, 4, none⟩ = some (.int .i64 a.o)) ∧
    W.cell? ⟨w.heap.size + 1, 0, none⟩ = some (.int .i64 b.c) ∧ W.cell? ⟨w.heap.size + 1, 1, none⟩ = some (.float .f64 b.m) ∧ W.cell? ⟨w.heap.size + 1, 2, none⟩ = some (.float .f64 b.v) ∧ W.cell? ⟨w.heap.size + 1, 3, none⟩ = some (.int .i64 b.l) ∧ W.cell? ⟨w.heap.size + 1, 4, none⟩ = some (.int .i64 b.o) :=
  ⟨⟨h.ca 0, h.ca 1, h.ca 2, h.ca 3, h.ca 4⟩, h.cb 0, h.cb 1, h.cb 2, h.cb 3, h.cb 4⟩
/-- The result's box takes a summary. -/
theorem KJ.ret (h : KJ w a b W) (u : Su) : ∃ W', (SA 25 (.pointer (some ⟨w.heap.size + 2, 0, none⟩)) (.agg #[.int .i64 u.c, .float .f64 u.m, .float .f64 u.v, .int .i64 u.l, .int .i64 u.o])).run Try.prog W = .ok () W' ∧ Blk W' (w.heap.size + 2) 25 u.list ∧ Below w.heap.size w W' := by
  have h0 : Blk W (w.heap.size + 2) 25 (Su.list zSu) := h.1 (w.heap.size + 2, 25, Su.list zSu) (by simp)
  refine ⟨_, stores_mid (cs := u.list) h0 (by simp) (by show _ = some 5; kernel_rfl) (su_one u), ?_, below_sets (by omega) _ _ _ h.2⟩
  have := Blk.puts u.list 0 _ _ h0 (by simp)
  simpa using this
end
theorem res_j {fn : Func} (hf : fn.results = #[.cell 4 tS, .tmp 5]) (tmps : Array Value) (W : World) (b : Nat) (l : List Value) (e : Value) {t : TypeId} (h8 : tmps.getD 4 undef = .pointer (some ⟨b, 0, none⟩)) (h9 : tmps.getD 5 undef = e) (hb : Blk W b t l) (hl : l.length = 5) :
    (results fn tmps).run Try.prog W = .ok (.tuple #[.agg l.toArray, e]) W := by
  rw [results_cell_tmp hf, h8, h9]
  have := run_loadVar_mid (P := Try.prog) W b 0 tS l _ (fun j v hv => by rw [Nat.zero_add]; exact hb.cellv hv) Try.underlying25 rfl (by rw [hl]; kernel_rfl)
  show (Sem.run Try.prog (loadVar tS ⟨b, 0, none⟩) W).andThen _ = _
  rw [this]; rfl
theorem may_b (s : Su) (w : World) (hw : Su.wf s) (x : Bool) (h : mayB s = x) : Calls Try.prog 46 #[.agg #[.int .i64 s.c, .float .f64 s.m, .float .f64 s.v, .int .i64 s.l, .int .i64 s.o]] w fun e w' => e = .returned (.bool x) ∧ Below w.heap.size w w' := by
  subst h; exact may_c s w hw
attribute [local go_sem ↓] store_sum load_sum
attribute [local go_sem] size_sets Of.run_store_float
def JPost (a b : Su) (w : World) (e : Ending) (w' : World) : Prop := e = .returned (.tuple #[.agg #[.int .i64 (joinS a b).c, .float .f64 (joinS a b).m, .float .f64 (joinS a b).v, .int .i64 (joinS a b).l, .int .i64 (joinS a b).o], .int .i64 (joinE a b)]) ∧ Below w.heap.size w w'
theorem JPost.mk {a b u : Su} {n : Int} {w w' : World} (hs : joinS a b = u) (he : joinE a b = n) (hb : Below w.heap.size w w') : JPost a b w (.returned (.tuple #[.agg #[.int .i64 u.c, .float .f64 u.m, .float .f64 u.v, .int .i64 u.l, .int .i64 u.o], .int .i64 n])) w' := by
  unfold JPost; rw [hs, he]; exact ⟨rfl, hb⟩
/-- And that of the sum. -/
structure K4 (w : World) (a b : Su) (g : Nat) (u : Su) (W : World) : Prop where
  kj : KJ w a b W
  blk : Blk W g 25 u.list
  lt : w.heap.size + 2 < g
section
variable {w W W' : World} {a b u : Su} {g : Nat}
theorem KJ.lt (h : KJ w a b W) : w.heap.size + 2 < W.heap.size := Has.lt h (b := w.heap.size + 2) (t := 25) (l := Su.list zSu) (by simp)
theorem K4.start (h : KJ w a b W) (hb : Blk W' W.heap.size 25 u.list) (hl : Below W.heap.size W W') : K4 w a b W.heap.size u W' := ⟨h.keep hl, hb, h.lt⟩
theorem K4.drewN (h : K4 w a b g u W) (n : Nat) : K4 w a b g u (W.drewN n) := ⟨h.kj.drewN n, h.blk.drewN n, h.lt⟩
theorem K4.drew (h : K4 w a b g u W) : K4 w a b g u W.drew := h.drewN 1
theorem KJ.set (h : KJ w a b W) (hg : w.heap.size + 2 < g) (i : Nat) (v : Value) : KJ w a b (W.setCell ⟨g, i, none⟩ v) := by
  refine ⟨fun x hx => ?_, h.2.setCell (by show w.heap.size ≤ g; omega) _⟩
  refine (h.1 x hx).far (p := ⟨g, i, none⟩) ?_ _
  simp only [List.mem_cons, List.not_mem_nil, or_false] at hx
  rcases hx with rfl | rfl | rfl
  · show w.heap.size + 2 ≠ g; omega
  · show w.heap.size + 1 ≠ g; omega
  · show w.heap.size ≠ g; omega
theorem K4.put1 (h : K4 w a b g u W) (m : Nat) : K4 w a b g ⟨u.c, m, u.v, u.l, u.o⟩ (W.setCell ⟨g, 1, none⟩ (.float .f64 m)) := ⟨h.kj.set h.lt 1 _, h.blk.put 1 _, h.lt⟩
theorem K4.put2 (h : K4 w a b g u W) (v : Nat) : K4 w a b g ⟨u.c, u.m, v, u.l, u.o⟩ (W.setCell ⟨g, 2, none⟩ (.float .f64 v)) := ⟨h.kj.set h.lt 2 _, h.blk.put 2 _, h.lt⟩
theorem K4.put3 (h : K4 w a b g u W) (l : Int) : K4 w a b g ⟨u.c, u.m, u.v, l, u.o⟩ (W.setCell ⟨g, 3, none⟩ (.int .i64 l)) := ⟨h.kj.set h.lt 3 _, h.blk.put 3 _, h.lt⟩
theorem K4.put4 (h : K4 w a b g u W) (o : Int) : K4 w a b g ⟨u.c, u.m, u.v, u.l, o⟩ (W.setCell ⟨g, 4, none⟩ (.int .i64 o)) := ⟨h.kj.set h.lt 4 _, h.blk.put 4 _, h.lt⟩
theorem K4.ls (h : K4 w a b g u W) : (LA 25 (.pointer (some ⟨g, 0, none⟩))).run Try.prog W = .ok (.agg #[.int .i64 u.c, .float .f64 u.m, .float .f64 u.v, .int .i64 u.l, .int .i64 u.o]) W :=
  loads_box Try.underlying25 rfl (by show _ = some 5; kernel_rfl) (fun i => by rw [h.blk.cell]; simp)
theorem K4.cells (h : K4 w a b g u W) : (W.cell? ⟨g, 1, none⟩ = some (.float .f64 u.m) ∧ W.cell? ⟨g, 2, none⟩ = some (.float .f64 u.v) ∧ W.cell? ⟨g, 3, none⟩ = some (.int .i64 u.l) ∧ W.cell? ⟨g, 4, none⟩ = some (.int .i64 u.o)) ∧
    W.frozen? ⟨g, 1, none⟩ = false ∧ W.frozen? ⟨g, 2, none⟩ = false ∧ W.frozen? ⟨g, 3, none⟩ = false ∧ W.frozen? ⟨g, 4, none⟩ = false :=
  ⟨⟨h.blk.cell 1, h.blk.cell 2, h.blk.cell 3, h.blk.cell 4⟩, h.blk.free 1, h.blk.free 2, h.blk.free 3, h.blk.free 4⟩
end
/-- The operations, as the walk meets them. -/
structure JR (a b : Su) : Prop where
  all : ∀ t W, (binOp .add t (.float .f64 (floatOfInt .f64 a.c)) (.float .f64 (floatOfInt .f64 b.c))).run Try.prog W = .ok (.float .f64 (allF a b)) W
  p : ∀ t W, (binOp .mul t (.float .f64 (floatOfInt .f64 a.c)) (.float .f64 a.m)).run Try.prog W = .ok (.float .f64 (pF a)) W
  q : ∀ t W, (binOp .mul t (.float .f64 (floatOfInt .f64 b.c)) (.float .f64 b.m)).run Try.prog W = .ok (.float .f64 (pF b)) W
  x : ∀ t W, (binOp .mul t (.float .f64 (floatOfInt .f64 a.c)) (.float .f64 a.v)).run Try.prog W = .ok (.float .f64 (xF a)) W
  y : ∀ t W, (binOp .mul t (.float .f64 (floatOfInt .f64 b.c)) (.float .f64 b.v)).run Try.prog W = .ok (.float .f64 (xF b)) W
  v : ∀ t W, (binOp .add t (.float .f64 (xF a)) (.float .f64 (xF b))).run Try.prog W = .ok (.float .f64 (vF a b)) W
  nm : ∀ t W, (binOp .mul t (.float .f64 (floatOfInt .f64 a.c)) (.float .f64 (floatOfInt .f64 b.c))).run Try.prog W = .ok (.float .f64 (fo .mul (fi a.c) (fi b.c))) W
  w : ∀ t W, (binOp .quo t (.float .f64 (fo .mul (fi a.c) (fi b.c))) (.float .f64 (allF a b))).run Try.prog W = .ok (.float .f64 (wF a b)) W
  d : ∀ t W, (binOp .sub t (.float .f64 a.m) (.float .f64 b.m)).run Try.prog W = .ok (.float .f64 (dF a b)) W
  dd : ∀ t W, (binOp .mul t (.float .f64 (dF a b)) (.float .f64 (dF a b))).run Try.prog W = .ok (.float .f64 (fo .mul (dF a b) (dF a b))) W
  wd : ∀ t W, (binOp .mul t (.float .f64 (wF a b)) (.float .f64 (fo .mul (dF a b) (dF a b)))).run Try.prog W = .ok (.float .f64 (wdF a b)) W
  vw : ∀ t W, (binOp .add t (.float .f64 (vF a b)) (.float .f64 (wdF a b))).run Try.prog W = .ok (.float .f64 (fo .add (vF a b) (wdF a b))) W
  var : ∀ t W, (binOp .quo t (.float .f64 (fo .add (vF a b) (wdF a b))) (.float .f64 (allF a b))).run Try.prog W = .ok (.float .f64 (varJ a b)) W
theorem JR.of {a b : Su} (h : JD a b) : JR a b := ⟨fo_run h.all, fo_run h.p, fo_run h.q, fo_run h.x, fo_run h.y, fo_run h.v, fo_run h.nm, fo_run h.w, fo_run h.d, fo_run h.dd, fo_run h.wd, fo_run h.vw, fo_run h.var⟩
end Go.Proofs.Ytmpjcjgdjimioaa.Join
