/- The struct types of these laws: their cells by name, and how an argument reads as one. Written by wip/tools/types.py. -/
import Derived.Test.YtfehdajjnbehdaaShape
import Derived.Test.YtfehdajjnbehdaaRows
namespace Go.Proofs.Ytfehdajjnbehdaa.Types
structure Req where
  i0 : Int
  i1 : Int
  i2 : Int
  i3 : Int
  i4 : Int
  i5 : Int
  i6 : Int
  i7 : Int
  fx : Int
  fy : Int
  tx : Int
  ty : Int
  seats : Int
  classes : Int
  base : Int
  ttl : Int
abbrev Req.val (x : Req) : Value := .agg #[.int .u8 x.i0, .int .u8 x.i1, .int .u8 x.i2, .int .u8 x.i3, .int .u8 x.i4, .int .u8 x.i5, .int .u8 x.i6, .int .u8 x.i7, .int .i16 x.fx, .int .i16 x.fy, .int .i16 x.tx, .int .i16 x.ty, .int .u8 x.seats, .int .u8 x.classes, .int .i64 x.base, .int .i64 x.ttl]
structure Req.wf (x : Req) : Prop where
  i0 : (Lit.int .u8 x.i0).wf = true
  i1 : (Lit.int .u8 x.i1).wf = true
  i2 : (Lit.int .u8 x.i2).wf = true
  i3 : (Lit.int .u8 x.i3).wf = true
  i4 : (Lit.int .u8 x.i4).wf = true
  i5 : (Lit.int .u8 x.i5).wf = true
  i6 : (Lit.int .u8 x.i6).wf = true
  i7 : (Lit.int .u8 x.i7).wf = true
  fx : (Lit.int .i16 x.fx).wf = true
  fy : (Lit.int .i16 x.fy).wf = true
  tx : (Lit.int .i16 x.tx).wf = true
  ty : (Lit.int .i16 x.ty).wf = true
  seats : (Lit.int .u8 x.seats).wf = true
  classes : (Lit.int .u8 x.classes).wf = true
  base : (Lit.int .i64 x.base).wf = true
  ttl : (Lit.int .i64 x.ttl).wf = true
abbrev Req.list (x : Req) : List Value := [.int .u8 x.i0, .int .u8 x.i1, .int .u8 x.i2, .int .u8 x.i3, .int .u8 x.i4, .int .u8 x.i5, .int .u8 x.i6, .int .u8 x.i7, .int .i16 x.fx, .int .i16 x.fy, .int .i16 x.tx, .int .i16 x.ty, .int .u8 x.seats, .int .u8 x.classes, .int .i64 x.base, .int .i64 x.ttl]
theorem Req.of_cells {H : Type} {enc : TypeId × Value → H} {w : World} {base : Nat} {spare : Nat → Bool} {held : Bool} {vs : List Value} (hl : vs.length = Try.prog.cellsOf 36) (hk : ∀ n i L, Shape.cellAt Try.prog n 36 i = some L → ∃ x, vs[i]? = some x ∧ L.has enc Try.prog w base spare held x) : ∃ x : Req, vs = x.list ∧ x.wf := by
  rw [show Try.prog.cellsOf 36 = 16 from by kernel_rfl] at hl
  obtain ⟨_, hx0, a0, rfl, w0⟩ := hk 10 0 (.int .u8) (by kernel_rfl)
  obtain ⟨_, hx1, a1, rfl, w1⟩ := hk 10 1 (.int .u8) (by kernel_rfl)
  obtain ⟨_, hx2, a2, rfl, w2⟩ := hk 10 2 (.int .u8) (by kernel_rfl)
  obtain ⟨_, hx3, a3, rfl, w3⟩ := hk 10 3 (.int .u8) (by kernel_rfl)
  obtain ⟨_, hx4, a4, rfl, w4⟩ := hk 10 4 (.int .u8) (by kernel_rfl)
  obtain ⟨_, hx5, a5, rfl, w5⟩ := hk 10 5 (.int .u8) (by kernel_rfl)
  obtain ⟨_, hx6, a6, rfl, w6⟩ := hk 10 6 (.int .u8) (by kernel_rfl)
  obtain ⟨_, hx7, a7, rfl, w7⟩ := hk 10 7 (.int .u8) (by kernel_rfl)
  obtain ⟨_, hx8, a8, rfl, w8⟩ := hk 10 8 (.int .i16) (by kernel_rfl)
  obtain ⟨_, hx9, a9, rfl, w9⟩ := hk 10 9 (.int .i16) (by kernel_rfl)
  obtain ⟨_, hx10, a10, rfl, w10⟩ := hk 10 10 (.int .i16) (by kernel_rfl)
  obtain ⟨_, hx11, a11, rfl, w11⟩ := hk 10 11 (.int .i16) (by kernel_rfl)
  obtain ⟨_, hx12, a12, rfl, w12⟩ := hk 10 12 (.int .u8) (by kernel_rfl)
  obtain ⟨_, hx13, a13, rfl, w13⟩ := hk 10 13 (.int .u8) (by kernel_rfl)
  obtain ⟨_, hx14, a14, rfl, w14⟩ := hk 10 14 (.int .i64) (by kernel_rfl)
  obtain ⟨_, hx15, a15, rfl, w15⟩ := hk 10 15 (.int .i64) (by kernel_rfl)
  have hv : vs = [.int .u8 a0, .int .u8 a1, .int .u8 a2, .int .u8 a3, .int .u8 a4, .int .u8 a5, .int .u8 a6, .int .u8 a7, .int .i16 a8, .int .i16 a9, .int .i16 a10, .int .i16 a11, .int .u8 a12, .int .u8 a13, .int .i64 a14, .int .i64 a15] := by
    apply List.ext_getElem?
    intro i
    match i with
    | 0 => exact hx0
    | 1 => exact hx1
    | 2 => exact hx2
    | 3 => exact hx3
    | 4 => exact hx4
    | 5 => exact hx5
    | 6 => exact hx6
    | 7 => exact hx7
    | 8 => exact hx8
    | 9 => exact hx9
    | 10 => exact hx10
    | 11 => exact hx11
    | 12 => exact hx12
    | 13 => exact hx13
    | 14 => exact hx14
    | 15 => exact hx15
    | n + 16 => rw [List.getElem?_eq_none (by omega), List.getElem?_eq_none (by simp)]
  subst hv
  exact ⟨⟨a0, a1, a2, a3, a4, a5, a6, a7, a8, a9, a10, a11, a12, a13, a14, a15⟩, rfl, ⟨w0, w1, w2, w3, w4, w5, w6, w7, w8, w9, w10, w11, w12, w13, w14, w15⟩⟩
theorem Req.any {H : Type} {enc : TypeId × Value → H} {w : World} {base : Nat} {spare : Nat → Bool} {held : Bool} {r : Reach} {b0 : Nat} {v : Value} {d : DataW H} {p : List MemPlace} (hval : Value.okWide Try.prog w r b0 36 v) (h : DataW.Trod enc Try.prog w base spare held 36 v d p) : ∃ x : Req, v = x.val ∧ x.wf := by
  obtain ⟨vs, rfl, hl, hk⟩ := Shape.flat_any Try.underlying36 hval h
  obtain ⟨x, rfl, hw⟩ := Req.of_cells hl hk
  exact ⟨x, rfl, hw⟩
end Go.Proofs.Ytfehdajjnbehdaa.Types
