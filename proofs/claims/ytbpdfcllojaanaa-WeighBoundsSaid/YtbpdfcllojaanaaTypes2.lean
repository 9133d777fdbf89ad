/- The struct types of these laws: their cells by name, and how an argument reads as one. Written by wip/tools/types.py. -/
import Derived.Test.YtbpdfcllojaanaaShape
import Derived.Test.YtbpdfcllojaanaaRows
namespace Go.Proofs.Ytbpdfcllojaanaa.Types
structure Two where
  a_i0 : Int
  a_i1 : Int
  a_i2 : Int
  a_i3 : Int
  a_i4 : Int
  a_i5 : Int
  a_i6 : Int
  a_i7 : Int
  a_fx : Int
  a_fy : Int
  a_tx : Int
  a_ty : Int
  a_seats : Int
  a_classes : Int
  a_base : Int
  a_ttl : Int
  a_since : Int
  a_number : Int
  b_i0 : Int
  b_i1 : Int
  b_i2 : Int
  b_i3 : Int
  b_i4 : Int
  b_i5 : Int
  b_i6 : Int
  b_i7 : Int
  b_fx : Int
  b_fy : Int
  b_tx : Int
  b_ty : Int
  b_seats : Int
  b_classes : Int
  b_base : Int
  b_ttl : Int
  b_since : Int
  b_number : Int
abbrev Two.val (x : Two) : Value := .agg #[.int .u8 x.a_i0, .int .u8 x.a_i1, .int .u8 x.a_i2, .int .u8 x.a_i3, .int .u8 x.a_i4, .int .u8 x.a_i5, .int .u8 x.a_i6, .int .u8 x.a_i7, .int .i16 x.a_fx, .int .i16 x.a_fy, .int .i16 x.a_tx, .int .i16 x.a_ty, .int .u8 x.a_seats, .int .u8 x.a_classes, .int .i64 x.a_base, .int .i64 x.a_ttl, .int .i64 x.a_since, .int .i64 x.a_number, .int .u8 x.b_i0, .int .u8 x.b_i1, .int .u8 x.b_i2, .int .u8 x.b_i3, .int .u8 x.b_i4, .int .u8 x.b_i5, .int .u8 x.b_i6, .int .u8 x.b_i7, .int .i16 x.b_fx, .int .i16 x.b_fy, .int .i16 x.b_tx, .int .i16 x.b_ty, .int .u8 x.b_seats, .int .u8 x.b_classes, .int .i64 x.b_base, .int .i64 x.b_ttl, .int .i64 x.b_since, .int .i64 x.b_number]
structure Two.wf (x : Two) : Prop where
  a_i0 : (Lit.int .u8 x.a_i0).wf = true
  a_i1 : (Lit.int .u8 x.a_i1).wf = true
  a_i2 : (Lit.int .u8 x.a_i2).wf = true
  a_i3 : (Lit.int .u8 x.a_i3).wf = true
  a_i4 : (Lit.int .u8 x.a_i4).wf = true
  a_i5 : (Lit.int .u8 x.a_i5).wf = true
  a_i6 : (Lit.int .u8 x.a_i6).wf = true
  a_i7 : (Lit.int .u8 x.a_i7).wf = true
  a_fx : (Lit.int .i16 x.a_fx).wf = true
  a_fy : (Lit.int .i16 x.a_fy).wf = true
  a_tx : (Lit.int .i16 x.a_tx).wf = true
  a_ty : (Lit.int .i16 x.a_ty).wf = true
  a_seats : (Lit.int .u8 x.a_seats).wf = true
  a_classes : (Lit.int .u8 x.a_classes).wf = true
  a_base : (Lit.int .i64 x.a_base).wf = true
  a_ttl : (Lit.int .i64 x.a_ttl).wf = true
  a_since : (Lit.int .i64 x.a_since).wf = true
  a_number : (Lit.int .i64 x.a_number).wf = true
  b_i0 : (Lit.int .u8 x.b_i0).wf = true
  b_i1 : (Lit.int .u8 x.b_i1).wf = true
  b_i2 : (Lit.int .u8 x.b_i2).wf = true
  b_i3 : (Lit.int .u8 x.b_i3).wf = true
  b_i4 : (Lit.int .u8 x.b_i4).wf = true
  b_i5 : (Lit.int .u8 x.b_i5).wf = true
  b_i6 : (Lit.int .u8 x.b_i6).wf = true
  b_i7 : (Lit.int .u8 x.b_i7).wf = true
  b_fx : (Lit.int .i16 x.b_fx).wf = true
  b_fy : (Lit.int .i16 x.b_fy).wf = true
  b_tx : (Lit.int .i16 x.b_tx).wf = true
  b_ty : (Lit.int .i16 x.b_ty).wf = true
  b_seats : (Lit.int .u8 x.b_seats).wf = true
  b_classes : (Lit.int .u8 x.b_classes).wf = true
  b_base : (Lit.int .i64 x.b_base).wf = true
  b_ttl : (Lit.int .i64 x.b_ttl).wf = true
  b_since : (Lit.int .i64 x.b_since).wf = true
  b_number : (Lit.int .i64 x.b_number).wf = true
abbrev Two.list (x : Two) : List Value := [.int .u8 x.a_i0, .int .u8 x.a_i1, .int .u8 x.a_i2, .int .u8 x.a_i3, .int .u8 x.a_i4, .int .u8 x.a_i5, .int .u8 x.a_i6, .int .u8 x.a_i7, .int .i16 x.a_fx, .int .i16 x.a_fy, .int .i16 x.a_tx, .int .i16 x.a_ty, .int .u8 x.a_seats, .int .u8 x.a_classes, .int .i64 x.a_base, .int .i64 x.a_ttl, .int .i64 x.a_since, .int .i64 x.a_number, .int .u8 x.b_i0, .int .u8 x.b_i1, .int .u8 x.b_i2, .int .u8 x.b_i3, .int .u8 x.b_i4, .int .u8 x.b_i5, .int .u8 x.b_i6, .int .u8 x.b_i7, .int .i16 x.b_fx, .int .i16 x.b_fy, .int .i16 x.b_tx, .int .i16 x.b_ty, .int .u8 x.b_seats, .int .u8 x.b_classes, .int .i64 x.b_base, .int .i64 x.b_ttl, .int .i64 x.b_since, .int .i64 x.b_number]
theorem Two.of_cells {H : Type} {enc : TypeId × Value → H} {w : World} {base : Nat} {spare : Nat → Bool} {held : Bool} {vs : List Value} (hl : vs.length = Try.prog.cellsOf 48) (hk : ∀ n i L, Shape.cellAt Try.prog n 48 i = some L → ∃ x, vs[i]? = some x ∧ L.has enc Try.prog w base spare held x) : ∃ x : Two, vs = x.list ∧ x.wf := by
  rw [show Try.prog.cellsOf 48 = 36 from by kernel_rfl] at hl
  obtain ⟨_, hx0, a0, rfl, w0⟩ := hk 10 0 (.int .u8) (by kernel_rfl)
  obtain ⟨_, hx1, a1, rfl, w1⟩ := hk 10 1 (.int .u8) (by kernel_rfl)
  obtain ⟨_, hx2, a2, rfl, w2⟩ := hk 10 2 (.int .u8) (by kernel_rfl)
  obtain ⟨_, hx3, a3, rfl, w3⟩ := hk 10 3 (.int .u8) (by kernel_rfl)
  obtain ⟨_, hx4, a4, rfl, w4⟩ := hk 10 4 (.int .u8) (by kernel_rfl)
  obtain ⟨_, hx5, a5, rfl, w5⟩ := hk 10 5 (.int .u8) (by kernel_rfl)
  obtain ⟨_, hx6, a6, rfl, w6⟩ := hk 10 6 (.int .u8) (by kernel_rfl)
  obtain ⟨_, hx7, a7, rfl, w7⟩ := hk 10 7 (.int .u8) (by kernel_rfl)
  obtain ⟨_, hx8, a8, rfl, w8⟩ := hk 10 8 (.int .i16) (by kernel_rfl)
  obtain ⟨_, hx9, a9, rfl, w9⟩ := hk 10 9 (.int .i16) (by kernel_rfl)
  obtain ⟨_, hx10, a10, rfl, w10⟩ := hk 10 10 (.int .i16) (by kernel_rfl)
  obtain ⟨_, hx11, a11, rfl, w11⟩ := hk 10 11 (.int .i16) (by kernel_rfl)
  obtain ⟨_, hx12, a12, rfl, w12⟩ := hk 10 12 (.int .u8) (by kernel_rfl)
  obtain ⟨_, hx13, a13, rfl, w13⟩ := hk 10 13 (.int .u8) (by kernel_rfl)
  obtain ⟨_, hx14, a14, rfl, w14⟩ := hk 10 14 (.int .i64) (by kernel_rfl)
  obtain ⟨_, hx15, a15, rfl, w15⟩ := hk 10 15 (.int .i64) (by kernel_rfl)
  obtain ⟨_, hx16, a16, rfl, w16⟩ := hk 10 16 (.int .i64) (by kernel_rfl)
  obtain ⟨_, hx17, a17, rfl, w17⟩ := hk 10 17 (.int .i64) (by kernel_rfl)
  obtain ⟨_, hx18, a18, rfl, w18⟩ := hk 10 18 (.int .u8) (by kernel_rfl)
  obtain ⟨_, hx19, a19, rfl, w19⟩ := hk 10 19 (.int .u8) (by kernel_rfl)
  obtain ⟨_, hx20, a20, rfl, w20⟩ := hk 10 20 (.int .u8) (by kernel_rfl)
  obtain ⟨_, hx21, a21, rfl, w21⟩ := hk 10 21 (.int .u8) (by kernel_rfl)
  obtain ⟨_, hx22, a22, rfl, w22⟩ := hk 10 22 (.int .u8) (by kernel_rfl)
  obtain ⟨_, hx23, a23, rfl, w23⟩ := hk 10 23 (.int .u8) (by kernel_rfl)
  obtain ⟨_, hx24, a24, rfl, w24⟩ := hk 10 24 (.int .u8) (by kernel_rfl)
  obtain ⟨_, hx25, a25, rfl, w25⟩ := hk 10 25 (.int .u8) (by kernel_rfl)
  obtain ⟨_, hx26, a26, rfl, w26⟩ := hk 10 26 (.int .i16) (by kernel_rfl)
  obtain ⟨_, hx27, a27, rfl, w27⟩ := hk 10 27 (.int .i16) (by kernel_rfl)
  obtain ⟨_, hx28, a28, rfl, w28⟩ := hk 10 28 (.int .i16) (by kernel_rfl)
  obtain ⟨_, hx29, a29, rfl, w29⟩ := hk 10 29 (.int .i16) (by kernel_rfl)
  obtain ⟨_, hx30, a30, rfl, w30⟩ := hk 10 30 (.int .u8) (by kernel_rfl)
  obtain ⟨_, hx31, a31, rfl, w31⟩ := hk 10 31 (.int .u8) (by kernel_rfl)
  obtain ⟨_, hx32, a32, rfl, w32⟩ := hk 10 32 (.int .i64) (by kernel_rfl)
  obtain ⟨_, hx33, a33, rfl, w33⟩ := hk 10 33 (.int .i64) (by kernel_rfl)
  obtain ⟨_, hx34, a34, rfl, w34⟩ := hk 10 34 (.int .i64) (by kernel_rfl)
  obtain ⟨_, hx35, a35, rfl, w35⟩ := hk 10 35 (.int .i64) (by kernel_rfl)
  have hv : vs = [.int .u8 a0, .int .u8 a1, .int .u8 a2, .int .u8 a3, .int .u8 a4, .int .u8 a5, .int .u8 a6, .int .u8 a7, .int .i16 a8, .int .i16 a9, .int .i16 a10, .int .i16 a11, .int .u8 a12, .int .u8 a13, .int .i64 a14, .int .i64 a15, .int .i64 a16, .int .i64 a17, .int .u8 a18, .int .u8 a19, .int .u8 a20, .int .u8 a21, .int .u8 a22, .int .u8 a23, .int .u8 a24, .int .u8 a25, .int .i16 a26, .int .i16 a27, .int .i16 a28, .int .i16 a29, .int .u8 a30, .int .u8 a31, .int .i64 a32, .int .i64 a33, .int .i64 a34, .int .i64 a35] := by
    apply List.ext_getElem?
    intro i
    match i with
    | 0 => exact hx0
    | 1 => exact hx1
    | 2 => exact hx2
    | 3 => exact hx3
    | 4 => exact hx4
    | 5 => exact hx5
    | 6 => exact hx6
    | 7 => exact hx7
    | 8 => exact hx8
    | 9 => exact hx9
    | 10 => exact hx10
    | 11 => exact hx11
    | 12 => exact hx12
    | 13 => exact hx13
    | 14 => exact hx14
    | 15 => exact hx15
    | 16 => exact hx16
    | 17 => exact hx17
    | 18 => exact hx18
    | 19 => exact hx19
    | 20 => exact hx20
    | 21 => exact hx21
    | 22 => exact hx22
    | 23 => exact hx23
    | 24 => exact hx24
    | 25 => exact hx25
    | 26 => exact hx26
    | 27 => exact hx27
    | 28 => exact hx28
    | 29 => exact hx29
    | 30 => exact hx30
    | 31 => exact hx31
    | 32 => exact hx32
    | 33 => exact hx33
    | 34 => exact hx34
    | 35 => exact hx35
    | n + 36 => rw [List.getElem?_eq_none (by omega), List.getElem?_eq_none (by simp)]
  subst hv
  exact ⟨⟨a0, a1, a2, a3, a4, a5, a6, a7, a8, a9, a10, a11, a12, a13, a14, a15, a16, a17, a18, a19, a20, a21, a22, a23, a24, a25, a26, a27, a28, a29, a30, a31, a32, a33, a34, a35⟩, rfl, ⟨w0, w1, w2, w3, w4, w5, w6, w7, w8, w9, w10, w11, w12, w13, w14, w15, w16, w17, w18, w19, w20, w21, w22, w23, w24, w25, w26, w27, w28, w29, w30, w31, w32, w33, w34, w35⟩⟩
theorem Two.any {H : Type} {enc : TypeId × Value → H} {w : World} {base : Nat} {spare : Nat → Bool} {held : Bool} {r : Reach} {b0 : Nat} {v : Value} {d : DataW H} {p : List MemPlace} (hval : Value.okWide Try.prog w r b0 48 v) (h : DataW.Trod enc Try.prog w base spare held 48 v d p) : ∃ x : Two, v = x.val ∧ x.wf := by
  obtain ⟨vs, rfl, hl, hk⟩ := Shape.flat_any Try.underlying48 hval h
  obtain ⟨x, rfl, hw⟩ := Two.of_cells hl hk
  exact ⟨x, rfl, hw⟩
structure Edges2 where
  a_r : Int
  a_c : Int
  a_w : Int
  b_r : Int
  b_c : Int
  b_w : Int
abbrev Edges2.val (x : Edges2) : Value := .agg #[.int .i64 x.a_r, .int .i64 x.a_c, .int .i64 x.a_w, .int .i64 x.b_r, .int .i64 x.b_c, .int .i64 x.b_w]
structure Edges2.wf (x : Edges2) : Prop where
  a_r : (Lit.int .i64 x.a_r).wf = true
  a_c : (Lit.int .i64 x.a_c).wf = true
  a_w : (Lit.int .i64 x.a_w).wf = true
  b_r : (Lit.int .i64 x.b_r).wf = true
  b_c : (Lit.int .i64 x.b_c).wf = true
  b_w : (Lit.int .i64 x.b_w).wf = true
abbrev Edges2.list (x : Edges2) : List Value := [.int .i64 x.a_r, .int .i64 x.a_c, .int .i64 x.a_w, .int .i64 x.b_r, .int .i64 x.b_c, .int .i64 x.b_w]
theorem Edges2.of_cells {H : Type} {enc : TypeId × Value → H} {w : World} {base : Nat} {spare : Nat → Bool} {held : Bool} {vs : List Value} (hl : vs.length = Try.prog.cellsOf 68) (hk : ∀ n i L, Shape.cellAt Try.prog n 68 i = some L → ∃ x, vs[i]? = some x ∧ L.has enc Try.prog w base spare held x) : ∃ x : Edges2, vs = x.list ∧ x.wf := by
  rw [show Try.prog.cellsOf 68 = 6 from by kernel_rfl] at hl
  obtain ⟨_, hx0, a0, rfl, w0⟩ := hk 10 0 (.int .i64) (by kernel_rfl)
  obtain ⟨_, hx1, a1, rfl, w1⟩ := hk 10 1 (.int .i64) (by kernel_rfl)
  obtain ⟨_, hx2, a2, rfl, w2⟩ := hk 10 2 (.int .i64) (by kernel_rfl)
  obtain ⟨_, hx3, a3, rfl, w3⟩ := hk 10 3 (.int .i64) (by kernel_rfl)
  obtain ⟨_, hx4, a4, rfl, w4⟩ := hk 10 4 (.int .i64) (by kernel_rfl)
  obtain ⟨_, hx5, a5, rfl, w5⟩ := hk 10 5 (.int .i64) (by kernel_rfl)
  have hv : vs = [.int .i64 a0, .int .i64 a1, .int .i64 a2, .int .i64 a3, .int .i64 a4, .int .i64 a5] := by
    apply List.ext_getElem?
    intro i
    match i with
    | 0 => exact hx0
    | 1 => exact hx1
    | 2 => exact hx2
    | 3 => exact hx3
    | 4 => exact hx4
    | 5 => exact hx5
    | n + 6 => rw [List.getElem?_eq_none (by omega), List.getElem?_eq_none (by simp)]
  subst hv
  exact ⟨⟨a0, a1, a2, a3, a4, a5⟩, rfl, ⟨w0, w1, w2, w3, w4, w5⟩⟩
theorem Edges2.any {H : Type} {enc : TypeId × Value → H} {w : World} {base : Nat} {spare : Nat → Bool} {held : Bool} {r : Reach} {b0 : Nat} {v : Value} {d : DataW H} {p : List MemPlace} (hval : Value.okWide Try.prog w r b0 68 v) (h : DataW.Trod enc Try.prog w base spare held 68 v d p) : ∃ x : Edges2, v = x.val ∧ x.wf := by
  obtain ⟨vs, rfl, hl, hk⟩ := Shape.flat_any Try.underlying68 hval h
  obtain ⟨x, rfl, hw⟩ := Edges2.of_cells hl hk
  exact ⟨x, rfl, hw⟩
end Go.Proofs.Ytbpdfcllojaanaa.Types
