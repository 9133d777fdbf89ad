/- The struct types of these laws: their cells by name, and how an argument reads as one. Written by wip/tools/types.py. -/
import Derived.Test.YtfehdajjnbehdaaShape
import Derived.Test.YtfehdajjnbehdaaRows
namespace Go.Proofs.Ytfehdajjnbehdaa.Types
structure Sur where
  px : Nat
  py : Nat
abbrev Sur.val (x : Sur) : Value := .agg #[.float .f64 x.px, .float .f64 x.py]
structure Sur.wf (x : Sur) : Prop where
  px : (Lit.float .f64 x.px).wf = true
  py : (Lit.float .f64 x.py).wf = true
abbrev Sur.list (x : Sur) : List Value := [.float .f64 x.px, .float .f64 x.py]
theorem Sur.of_cells {H : Type} {enc : TypeId × Value → H} {w : World} {base : Nat} {spare : Nat → Bool} {held : Bool} {vs : List Value} (hl : vs.length = Try.prog.cellsOf 45) (hk : ∀ n i L, Shape.cellAt Try.prog n 45 i = some L → ∃ x, vs[i]? = some x ∧ L.has enc Try.prog w base spare held x) : ∃ x : Sur, vs = x.list ∧ x.wf := by
  rw [show Try.prog.cellsOf 45 = 2 from by kernel_rfl] at hl
  obtain ⟨_, hx0, a0, rfl, w0⟩ := hk 10 0 .flt (by kernel_rfl)
  obtain ⟨_, hx1, a1, rfl, w1⟩ := hk 10 1 .flt (by kernel_rfl)
  have hv : vs = [.float .f64 a0, .float .f64 a1] := by
    apply List.ext_getElem?
    intro i
    match i with
    | 0 => exact hx0
    | 1 => exact hx1
    | n + 2 => rw [List.getElem?_eq_none (by omega), List.getElem?_eq_none (by simp)]
  subst hv
  exact ⟨⟨a0, a1⟩, rfl, ⟨w0, w1⟩⟩
theorem Sur.any {H : Type} {enc : TypeId × Value → H} {w : World} {base : Nat} {spare : Nat → Bool} {held : Bool} {r : Reach} {b0 : Nat} {v : Value} {d : DataW H} {p : List MemPlace} (hval : Value.okWide Try.prog w r b0 45 v) (h : DataW.Trod enc Try.prog w base spare held 45 v d p) : ∃ x : Sur, v = x.val ∧ x.wf := by
  obtain ⟨vs, rfl, hl, hk⟩ := Shape.flat_any Try.underlying45 hval h
  obtain ⟨x, rfl, hw⟩ := Sur.of_cells hl hk
  exact ⟨x, rfl, hw⟩
end Go.Proofs.Ytfehdajjnbehdaa.Types
