/- The struct types of these laws: their cells by name, and how an argument reads as one. Written by wip/tools/types.py. -/
import Derived.Test.YtmpjcjgdjimioaaShape
import Derived.Test.YtmpjcjgdjimioaaRows
namespace Go.Proofs.Ytmpjcjgdjimioaa.Types
set_option maxRecDepth 100000
structure Mad where
  c : Int
  m : Int
  v : Int
  l : Int
  o : Int
abbrev Mad.val (x : Mad) : Value := .agg #[.int .i64 x.c, .int .u64 x.m, .int .u64 x.v, .int .i64 x.l, .int .i64 x.o]
structure Mad.wf (x : Mad) : Prop where
  c : (Lit.int .i64 x.c).wf = true
  m : (Lit.int .u64 x.m).wf = true
  v : (Lit.int .u64 x.v).wf = true
  l : (Lit.int .i64 x.l).wf = true
  o : (Lit.int .i64 x.o).wf = true
abbrev Mad.list (x : Mad) : List Value := [.int .i64 x.c, .int .u64 x.m, .int .u64 x.v, .int .i64 x.l, .int .i64 x.o]
theorem Mad.of_cells {H : Type} {enc : TypeId × Value → H} {w : World} {base : Nat} {spare : Nat → Bool} {held : Bool} {vs : List Value} (hl : vs.length = Try.prog.cellsOf 50) (hk : ∀ n i L, Shape.cellAt Try.prog n 50 i = some L → ∃ x, vs[i]? = some x ∧ L.has enc Try.prog w base spare held x) : ∃ x : Mad, vs = x.list ∧ x.wf := by
  rw [show Try.prog.cellsOf 50 = 5 from by kernel_rfl] at hl
  obtain ⟨_, hx0, a0, rfl, w0⟩ := hk 10 0 (.int .i64) (by kernel_rfl)
  obtain ⟨_, hx1, a1, rfl, w1⟩ := hk 10 1 (.int .u64) (by kernel_rfl)
  obtain ⟨_, hx2, a2, rfl, w2⟩ := hk 10 2 (.int .u64) (by kernel_rfl)
  obtain ⟨_, hx3, a3, rfl, w3⟩ := hk 10 3 (.int .i64) (by kernel_rfl)
  obtain ⟨_, hx4, a4, rfl, w4⟩ := hk 10 4 (.int .i64) (by kernel_rfl)
  have hv : vs = [.int .i64 a0, .int .u64 a1, .int .u64 a2, .int .i64 a3, .int .i64 a4] := by
    apply List.ext_getElem?
    intro i
    match i with
    | 0 => exact hx0
    | 1 => exact hx1
    | 2 => exact hx2
    | 3 => exact hx3
    | 4 => exact hx4
    | n + 5 => rw [List.getElem?_eq_none (by omega), List.getElem?_eq_none (by simp)]
  subst hv
  exact ⟨⟨a0, a1, a2, a3, a4⟩, rfl, ⟨w0, w1, w2, w3, w4⟩⟩
theorem Mad.any {H : Type} {enc : TypeId × Value → H} {w : World} {base : Nat} {spare : Nat → Bool} {held : Bool} {r : Reach} {b0 : Nat} {v : Value} {d : DataW H} {p : List MemPlace} (hval : Value.okWide Try.prog w r b0 50 v) (h : DataW.Trod enc Try.prog w base spare held 50 v d p) : ∃ x : Mad, v = x.val ∧ x.wf := by
  obtain ⟨vs, rfl, hl, hk⟩ := Shape.flat_any Try.underlying50 hval h
  obtain ⟨x, rfl, hw⟩ := Mad.of_cells hl hk
  exact ⟨x, rfl, hw⟩
end Go.Proofs.Ytmpjcjgdjimioaa.Types
