/- The struct types of these laws: their cells by name, and how an argument reads as one. Written by wip/tools/types.py. -/
import Derived.Test.YtfehdajjnbehdaaShape
import Derived.Test.YtfehdajjnbehdaaRows
namespace Go.Proofs.Ytfehdajjnbehdaa.Types
structure Qua where
  a : Int
  c : Int
  b : Int
  d : Int
abbrev Qua.val (x : Qua) : Value := .agg #[.int .i64 x.a, .int .i64 x.c, .int .i64 x.b, .int .i64 x.d]
structure Qua.wf (x : Qua) : Prop where
  a : (Lit.int .i64 x.a).wf = true
  c : (Lit.int .i64 x.c).wf = true
  b : (Lit.int .i64 x.b).wf = true
  d : (Lit.int .i64 x.d).wf = true
abbrev Qua.list (x : Qua) : List Value := [.int .i64 x.a, .int .i64 x.c, .int .i64 x.b, .int .i64 x.d]
theorem Qua.of_cells {H : Type} {enc : TypeId × Value → H} {w : World} {base : Nat} {spare : Nat → Bool} {held : Bool} {vs : List Value} (hl : vs.length = Try.prog.cellsOf 40) (hk : ∀ n i L, Shape.cellAt Try.prog n 40 i = some L → ∃ x, vs[i]? = some x ∧ L.has enc Try.prog w base spare held x) : ∃ x : Qua, vs = x.list ∧ x.wf := by
  rw [show Try.prog.cellsOf 40 = 4 from by kernel_rfl] at hl
  obtain ⟨_, hx0, a0, rfl, w0⟩ := hk 10 0 (.int .i64) (by kernel_rfl)
  obtain ⟨_, hx1, a1, rfl, w1⟩ := hk 10 1 (.int .i64) (by kernel_rfl)
  obtain ⟨_, hx2, a2, rfl, w2⟩ := hk 10 2 (.int .i64) (by kernel_rfl)
  obtain ⟨_, hx3, a3, rfl, w3⟩ := hk 10 3 (.int .i64) (by kernel_rfl)
  have hv : vs = [.int .i64 a0, .int .i64 a1, .int .i64 a2, .int .i64 a3] := by
    apply List.ext_getElem?
    intro i
    match i with
    | 0 => exact hx0
    | 1 => exact hx1
    | 2 => exact hx2
    | 3 => exact hx3
    | n + 4 => rw [List.getElem?_eq_none (by omega), List.getElem?_eq_none (by simp)]
  subst hv
  exact ⟨⟨a0, a1, a2, a3⟩, rfl, ⟨w0, w1, w2, w3⟩⟩
theorem Qua.any {H : Type} {enc : TypeId × Value → H} {w : World} {base : Nat} {spare : Nat → Bool} {held : Bool} {r : Reach} {b0 : Nat} {v : Value} {d : DataW H} {p : List MemPlace} (hval : Value.okWide Try.prog w r b0 40 v) (h : DataW.Trod enc Try.prog w base spare held 40 v d p) : ∃ x : Qua, v = x.val ∧ x.wf := by
  obtain ⟨vs, rfl, hl, hk⟩ := Shape.flat_any Try.underlying40 hval h
  obtain ⟨x, rfl, hw⟩ := Qua.of_cells hl hk
  exact ⟨x, rfl, hw⟩
end Go.Proofs.Ytfehdajjnbehdaa.Types
