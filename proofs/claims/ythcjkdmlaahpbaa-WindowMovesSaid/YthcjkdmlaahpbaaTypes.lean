/- The struct types of these laws: their cells by name, and how an argument reads as one. Written by wip/tools/types.py. -/
import Derived.Test.YthcjkdmlaahpbaaShape
import Derived.Test.YthcjkdmlaahpbaaRows
namespace Go.Proofs.Ythcjkdmlaahpbaa.Types
structure Opp where
  k : Int
  t : Int
  n : Int
abbrev Opp.val (x : Opp) : Value := .agg #[.int .i64 x.k, .int .i64 x.t, .int .i64 x.n]
structure Opp.wf (x : Opp) : Prop where
  k : (Lit.int .i64 x.k).wf = true
  t : (Lit.int .i64 x.t).wf = true
  n : (Lit.int .i64 x.n).wf = true
abbrev Opp.list (x : Opp) : List Value := [.int .i64 x.k, .int .i64 x.t, .int .i64 x.n]
theorem Opp.of_cells {H : Type} {enc : TypeId × Value → H} {w : World} {base : Nat} {spare : Nat → Bool} {held : Bool} {vs : List Value} (hl : vs.length = Try.prog.cellsOf 61) (hk : ∀ n i L, Shape.cellAt Try.prog n 61 i = some L → ∃ x, vs[i]? = some x ∧ L.has enc Try.prog w base spare held x) : ∃ x : Opp, vs = x.list ∧ x.wf := by
  rw [show Try.prog.cellsOf 61 = 3 from by kernel_rfl] at hl
  obtain ⟨_, hx0, a0, rfl, w0⟩ := hk 10 0 (.int .i64) (by kernel_rfl)
  obtain ⟨_, hx1, a1, rfl, w1⟩ := hk 10 1 (.int .i64) (by kernel_rfl)
  obtain ⟨_, hx2, a2, rfl, w2⟩ := hk 10 2 (.int .i64) (by kernel_rfl)
  have hv : vs = [.int .i64 a0, .int .i64 a1, .int .i64 a2] := by
    apply List.ext_getElem?
    intro i
    match i with
    | 0 => exact hx0
    | 1 => exact hx1
    | 2 => exact hx2
    | n + 3 => rw [List.getElem?_eq_none (by omega), List.getElem?_eq_none (by simp)]
  subst hv
  exact ⟨⟨a0, a1, a2⟩, rfl, ⟨w0, w1, w2⟩⟩
theorem Opp.any {H : Type} {enc : TypeId × Value → H} {w : World} {base : Nat} {spare : Nat → Bool} {held : Bool} {r : Reach} {b0 : Nat} {v : Value} {d : DataW H} {p : List MemPlace} (hval : Value.okWide Try.prog w r b0 61 v) (h : DataW.Trod enc Try.prog w base spare held 61 v d p) : ∃ x : Opp, v = x.val ∧ x.wf := by
  obtain ⟨vs, rfl, hl, hk⟩ := Shape.flat_any Try.underlying61 hval h
  obtain ⟨x, rfl, hw⟩ := Opp.of_cells hl hk
  exact ⟨x, rfl, hw⟩
end Go.Proofs.Ythcjkdmlaahpbaa.Types
