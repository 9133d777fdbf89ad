/- The struct types of these laws: their cells by name, and how an argument reads as one. Written by wip/tools/types.py. -/
import Derived.Test.YtbplgjocammnbaaGreatShape
import Derived.Test.YtbplgjocammnbaaGreatRows
namespace Go.Proofs.YtbplgjocammnbaaGreat.Types
set_option maxRecDepth 100000
structure Wai where
  i0 : Int
  i1 : Int
  i2 : Int
  i3 : Int
  i4 : Int
  i5 : Int
  i6 : Int
  i7 : Int
  fx : Int
  fy : Int
  tx : Int
  ty : Int
  seats : Int
  classes : Int
  base : Int
  ttl : Int
  since : Int
  number : Int
abbrev Wai.val (x : Wai) : Value := .agg #[.int .u8 x.i0, .int .u8 x.i1, .int .u8 x.i2, .int .u8 x.i3, .int .u8 x.i4, .int .u8 x.i5, .int .u8 x.i6, .int .u8 x.i7, .int .i16 x.fx, .int .i16 x.fy, .int .i16 x.tx, .int .i16 x.ty, .int .u8 x.seats, .int .u8 x.classes, .int .i64 x.base, .int .i64 x.ttl, .int .i64 x.since, .int .i64 x.number]
structure Wai.wf (x : Wai) : Prop where
  i0 : (Lit.int .u8 x.i0).wf = true
  i1 : (Lit.int .u8 x.i1).wf = true
  i2 : (Lit.int .u8 x.i2).wf = true
  i3 : (Lit.int .u8 x.i3).wf = true
  i4 : (Lit.int .u8 x.i4).wf = true
  i5 : (Lit.int .u8 x.i5).wf = true
  i6 : (Lit.int .u8 x.i6).wf = true
  i7 : (Lit.int .u8 x.i7).wf = true
  fx : (Lit.int .i16 x.fx).wf = true
  fy : (Lit.int .i16 x.fy).wf = true
  tx : (Lit.int .i16 x.tx).wf = true
  ty : (Lit.int .i16 x.ty).wf = true
  seats : (Lit.int .u8 x.seats).wf = true
  classes : (Lit.int .u8 x.classes).wf = true
  base : (Lit.int .i64 x.base).wf = true
  ttl : (Lit.int .i64 x.ttl).wf = true
  since : (Lit.int .i64 x.since).wf = true
  number : (Lit.int .i64 x.number).wf = true
abbrev Wai.list (x : Wai) : List Value := [.int .u8 x.i0, .int .u8 x.i1, .int .u8 x.i2, .int .u8 x.i3, .int .u8 x.i4, .int .u8 x.i5, .int .u8 x.i6, .int .u8 x.i7, .int .i16 x.fx, .int .i16 x.fy, .int .i16 x.tx, .int .i16 x.ty, .int .u8 x.seats, .int .u8 x.classes, .int .i64 x.base, .int .i64 x.ttl, .int .i64 x.since, .int .i64 x.number]
theorem Wai.of_cells {H : Type} {enc : TypeId × Value → H} {w : World} {base : Nat} {spare : Nat → Bool} {held : Bool} {vs : List Value} (hl : vs.length = Tryz.prog.cellsOf 81) (hk : ∀ n i L, Shape.cellAt Tryz.prog n 81 i = some L → ∃ x, vs[i]? = some x ∧ L.has enc Tryz.prog w base spare held x) : ∃ x : Wai, vs = x.list ∧ x.wf := by
  rw [show Tryz.prog.cellsOf 81 = 18 from by kernel_rfl] at hl
  obtain ⟨_, hx0, a0, rfl, w0⟩ := hk 10 0 (.int .u8) (by kernel_rfl)
  obtain ⟨_, hx1, a1, rfl, w1⟩ := hk 10 1 (.int .u8) (by kernel_rfl)
  obtain ⟨_, hx2, a2, rfl, w2⟩ := hk 10 2 (.int .u8) (by kernel_rfl)
  obtain ⟨_, hx3, a3, rfl, w3⟩ := hk 10 3 (.int .u8) (by kernel_rfl)
  obtain ⟨_, hx4, a4, rfl, w4⟩ := hk 10 4 (.int .u8) (by kernel_rfl)
  obtain ⟨_, hx5, a5, rfl, w5⟩ := hk 10 5 (.int .u8) (by kernel_rfl)
  obtain ⟨_, hx6, a6, rfl, w6⟩ := hk 10 6 (.int .u8) (by kernel_rfl)
  obtain ⟨_, hx7, a7, rfl, w7⟩ := hk 10 7 (.int .u8) (by kernel_rfl)
  obtain ⟨_, hx8, a8, rfl, w8⟩ := hk 10 8 (.int .i16) (by kernel_rfl)
  obtain ⟨_, hx9, a9, rfl, w9⟩ := hk 10 9 (.int .i16) (by kernel_rfl)
  obtain ⟨_, hx10, a10, rfl, w10⟩ := hk 10 10 (.int .i16) (by kernel_rfl)
  obtain ⟨_, hx11, a11, rfl, w11⟩ := hk 10 11 (.int .i16) (by kernel_rfl)
  obtain ⟨_, hx12, a12, rfl, w12⟩ := hk 10 12 (.int .u8) (by kernel_rfl)
  obtain ⟨_, hx13, a13, rfl, w13⟩ := hk 10 13 (.int .u8) (by kernel_rfl)
  obtain ⟨_, hx14, a14, rfl, w14⟩ := hk 10 14 (.int .i64) (by kernel_rfl)
  obtain ⟨_, hx15, a15, rfl, w15⟩ := hk 10 15 (.int .i64) (by kernel_rfl)
  obtain ⟨_, hx16, a16, rfl, w16⟩ := hk 10 16 (.int .i64) (by kernel_rfl)
  obtain ⟨_, hx17, a17, rfl, w17⟩ := hk 10 17 (.int .i64) (by kernel_rfl)
  have hv : vs = [.int .u8 a0, .int .u8 a1, .int .u8 a2, .int .u8 a3, .int .u8 a4, .int .u8 a5, .int .u8 a6, .int .u8 a7, .int .i16 a8, .int .i16 a9, .int .i16 a10, .int .i16 a11, .int .u8 a12, .int .u8 a13, .int .i64 a14, .int .i64 a15, .int .i64 a16, .int .i64 a17] := by
    apply List.ext_getElem?
    intro i
    match i with
    | 0 => exact hx0
    | 1 => exact hx1
    | 2 => exact hx2
    | 3 => exact hx3
    | 4 => exact hx4
    | 5 => exact hx5
    | 6 => exact hx6
    | 7 => exact hx7
    | 8 => exact hx8
    | 9 => exact hx9
    | 10 => exact hx10
    | 11 => exact hx11
    | 12 => exact hx12
    | 13 => exact hx13
    | 14 => exact hx14
    | 15 => exact hx15
    | 16 => exact hx16
    | 17 => exact hx17
    | n + 18 => rw [List.getElem?_eq_none (by omega), List.getElem?_eq_none (by simp)]
  subst hv
  exact ⟨⟨a0, a1, a2, a3, a4, a5, a6, a7, a8, a9, a10, a11, a12, a13, a14, a15, a16, a17⟩, rfl, ⟨w0, w1, w2, w3, w4, w5, w6, w7, w8, w9, w10, w11, w12, w13, w14, w15, w16, w17⟩⟩
theorem Wai.any {H : Type} {enc : TypeId × Value → H} {w : World} {base : Nat} {spare : Nat → Bool} {held : Bool} {r : Reach} {b0 : Nat} {v : Value} {d : DataW H} {p : List MemPlace} (hval : Value.okWide Tryz.prog w r b0 81 v) (h : DataW.Trod enc Tryz.prog w base spare held 81 v d p) : ∃ x : Wai, v = x.val ∧ x.wf := by
  obtain ⟨vs, rfl, hl, hk⟩ := Shape.flat_any Tryz.underlying81 hval h
  obtain ⟨x, rfl, hw⟩ := Wai.of_cells hl hk
  exact ⟨x, rfl, hw⟩
structure Idl where
  i0 : Int
  i1 : Int
  i2 : Int
  i3 : Int
  i4 : Int
  i5 : Int
  i6 : Int
  i7 : Int
  ax : Int
  ay : Int
  seats : Int
  cls : Int
  radius : Int
  number : Int
abbrev Idl.val (x : Idl) : Value := .agg #[.int .u8 x.i0, .int .u8 x.i1, .int .u8 x.i2, .int .u8 x.i3, .int .u8 x.i4, .int .u8 x.i5, .int .u8 x.i6, .int .u8 x.i7, .int .i16 x.ax, .int .i16 x.ay, .int .u8 x.seats, .int .u8 x.cls, .int .i64 x.radius, .int .i64 x.number]
structure Idl.wf (x : Idl) : Prop where
  i0 : (Lit.int .u8 x.i0).wf = true
  i1 : (Lit.int .u8 x.i1).wf = true
  i2 : (Lit.int .u8 x.i2).wf = true
  i3 : (Lit.int .u8 x.i3).wf = true
  i4 : (Lit.int .u8 x.i4).wf = true
  i5 : (Lit.int .u8 x.i5).wf = true
  i6 : (Lit.int .u8 x.i6).wf = true
  i7 : (Lit.int .u8 x.i7).wf = true
  ax : (Lit.int .i16 x.ax).wf = true
  ay : (Lit.int .i16 x.ay).wf = true
  seats : (Lit.int .u8 x.seats).wf = true
  cls : (Lit.int .u8 x.cls).wf = true
  radius : (Lit.int .i64 x.radius).wf = true
  number : (Lit.int .i64 x.number).wf = true
abbrev Idl.list (x : Idl) : List Value := [.int .u8 x.i0, .int .u8 x.i1, .int .u8 x.i2, .int .u8 x.i3, .int .u8 x.i4, .int .u8 x.i5, .int .u8 x.i6, .int .u8 x.i7, .int .i16 x.ax, .int .i16 x.ay, .int .u8 x.seats, .int .u8 x.cls, .int .i64 x.radius, .int .i64 x.number]
theorem Idl.of_cells {H : Type} {enc : TypeId × Value → H} {w : World} {base : Nat} {spare : Nat → Bool} {held : Bool} {vs : List Value} (hl : vs.length = Tryz.prog.cellsOf 160) (hk : ∀ n i L, Shape.cellAt Tryz.prog n 160 i = some L → ∃ x, vs[i]? = some x ∧ L.has enc Tryz.prog w base spare held x) : ∃ x : Idl, vs = x.list ∧ x.wf := by
  rw [show Tryz.prog.cellsOf 160 = 14 from by kernel_rfl] at hl
  obtain ⟨_, hx0, a0, rfl, w0⟩ := hk 10 0 (.int .u8) (by kernel_rfl)
  obtain ⟨_, hx1, a1, rfl, w1⟩ := hk 10 1 (.int .u8) (by kernel_rfl)
  obtain ⟨_, hx2, a2, rfl, w2⟩ := hk 10 2 (.int .u8) (by kernel_rfl)
  obtain ⟨_, hx3, a3, rfl, w3⟩ := hk 10 3 (.int .u8) (by kernel_rfl)
  obtain ⟨_, hx4, a4, rfl, w4⟩ := hk 10 4 (.int .u8) (by kernel_rfl)
  obtain ⟨_, hx5, a5, rfl, w5⟩ := hk 10 5 (.int .u8) (by kernel_rfl)
  obtain ⟨_, hx6, a6, rfl, w6⟩ := hk 10 6 (.int .u8) (by kernel_rfl)
  obtain ⟨_, hx7, a7, rfl, w7⟩ := hk 10 7 (.int .u8) (by kernel_rfl)
  obtain ⟨_, hx8, a8, rfl, w8⟩ := hk 10 8 (.int .i16) (by kernel_rfl)
  obtain ⟨_, hx9, a9, rfl, w9⟩ := hk 10 9 (.int .i16) (by kernel_rfl)
  obtain ⟨_, hx10, a10, rfl, w10⟩ := hk 10 10 (.int .u8) (by kernel_rfl)
  obtain ⟨_, hx11, a11, rfl, w11⟩ := hk 10 11 (.int .u8) (by kernel_rfl)
  obtain ⟨_, hx12, a12, rfl, w12⟩ := hk 10 12 (.int .i64) (by kernel_rfl)
  obtain ⟨_, hx13, a13, rfl, w13⟩ := hk 10 13 (.int .i64) (by kernel_rfl)
  have hv : vs = [.int .u8 a0, .int .u8 a1, .int .u8 a2, .int .u8 a3, .int .u8 a4, .int .u8 a5, .int .u8 a6, .int .u8 a7, .int .i16 a8, .int .i16 a9, .int .u8 a10, .int .u8 a11, .int .i64 a12, .int .i64 a13] := by
    apply List.ext_getElem?
    intro i
    match i with
    | 0 => exact hx0
    | 1 => exact hx1
    | 2 => exact hx2
    | 3 => exact hx3
    | 4 => exact hx4
    | 5 => exact hx5
    | 6 => exact hx6
    | 7 => exact hx7
    | 8 => exact hx8
    | 9 => exact hx9
    | 10 => exact hx10
    | 11 => exact hx11
    | 12 => exact hx12
    | 13 => exact hx13
    | n + 14 => rw [List.getElem?_eq_none (by omega), List.getElem?_eq_none (by simp)]
  subst hv
  exact ⟨⟨a0, a1, a2, a3, a4, a5, a6, a7, a8, a9, a10, a11, a12, a13⟩, rfl, ⟨w0, w1, w2, w3, w4, w5, w6, w7, w8, w9, w10, w11, w12, w13⟩⟩
theorem Idl.any {H : Type} {enc : TypeId × Value → H} {w : World} {base : Nat} {spare : Nat → Bool} {held : Bool} {r : Reach} {b0 : Nat} {v : Value} {d : DataW H} {p : List MemPlace} (hval : Value.okWide Tryz.prog w r b0 160 v) (h : DataW.Trod enc Tryz.prog w base spare held 160 v d p) : ∃ x : Idl, v = x.val ∧ x.wf := by
  obtain ⟨vs, rfl, hl, hk⟩ := Shape.flat_any Tryz.underlying160 hval h
  obtain ⟨x, rfl, hw⟩ := Idl.of_cells hl hk
  exact ⟨x, rfl, hw⟩
structure Edg where
  r : Int
  c : Int
  w : Int
abbrev Edg.val (x : Edg) : Value := .agg #[.int .i64 x.r, .int .i64 x.c, .int .i64 x.w]
structure Edg.wf (x : Edg) : Prop where
  r : (Lit.int .i64 x.r).wf = true
  c : (Lit.int .i64 x.c).wf = true
  w : (Lit.int .i64 x.w).wf = true
abbrev Edg.list (x : Edg) : List Value := [.int .i64 x.r, .int .i64 x.c, .int .i64 x.w]
theorem Edg.of_cells {H : Type} {enc : TypeId × Value → H} {w : World} {base : Nat} {spare : Nat → Bool} {held : Bool} {vs : List Value} (hl : vs.length = Tryz.prog.cellsOf 168) (hk : ∀ n i L, Shape.cellAt Tryz.prog n 168 i = some L → ∃ x, vs[i]? = some x ∧ L.has enc Tryz.prog w base spare held x) : ∃ x : Edg, vs = x.list ∧ x.wf := by
  rw [show Tryz.prog.cellsOf 168 = 3 from by kernel_rfl] at hl
  obtain ⟨_, hx0, a0, rfl, w0⟩ := hk 10 0 (.int .i64) (by kernel_rfl)
  obtain ⟨_, hx1, a1, rfl, w1⟩ := hk 10 1 (.int .i64) (by kernel_rfl)
  obtain ⟨_, hx2, a2, rfl, w2⟩ := hk 10 2 (.int .i64) (by kernel_rfl)
  have hv : vs = [.int .i64 a0, .int .i64 a1, .int .i64 a2] := by
    apply List.ext_getElem?
    intro i
    match i with
    | 0 => exact hx0
    | 1 => exact hx1
    | 2 => exact hx2
    | n + 3 => rw [List.getElem?_eq_none (by omega), List.getElem?_eq_none (by simp)]
  subst hv
  exact ⟨⟨a0, a1, a2⟩, rfl, ⟨w0, w1, w2⟩⟩
theorem Edg.any {H : Type} {enc : TypeId × Value → H} {w : World} {base : Nat} {spare : Nat → Bool} {held : Bool} {r : Reach} {b0 : Nat} {v : Value} {d : DataW H} {p : List MemPlace} (hval : Value.okWide Tryz.prog w r b0 168 v) (h : DataW.Trod enc Tryz.prog w base spare held 168 v d p) : ∃ x : Edg, v = x.val ∧ x.wf := by
  obtain ⟨vs, rfl, hl, hk⟩ := Shape.flat_any Tryz.underlying168 hval h
  obtain ⟨x, rfl, hw⟩ := Edg.of_cells hl hk
  exact ⟨x, rfl, hw⟩
structure Pai where
  r : Int
  c : Int
abbrev Pai.val (x : Pai) : Value := .agg #[.int .i64 x.r, .int .i64 x.c]
structure Pai.wf (x : Pai) : Prop where
  r : (Lit.int .i64 x.r).wf = true
  c : (Lit.int .i64 x.c).wf = true
abbrev Pai.list (x : Pai) : List Value := [.int .i64 x.r, .int .i64 x.c]
theorem Pai.of_cells {H : Type} {enc : TypeId × Value → H} {w : World} {base : Nat} {spare : Nat → Bool} {held : Bool} {vs : List Value} (hl : vs.length = Tryz.prog.cellsOf 72) (hk : ∀ n i L, Shape.cellAt Tryz.prog n 72 i = some L → ∃ x, vs[i]? = some x ∧ L.has enc Tryz.prog w base spare held x) : ∃ x : Pai, vs = x.list ∧ x.wf := by
  rw [show Tryz.prog.cellsOf 72 = 2 from by kernel_rfl] at hl
  obtain ⟨_, hx0, a0, rfl, w0⟩ := hk 10 0 (.int .i64) (by kernel_rfl)
  obtain ⟨_, hx1, a1, rfl, w1⟩ := hk 10 1 (.int .i64) (by kernel_rfl)
  have hv : vs = [.int .i64 a0, .int .i64 a1] := by
    apply List.ext_getElem?
    intro i
    match i with
    | 0 => exact hx0
    | 1 => exact hx1
    | n + 2 => rw [List.getElem?_eq_none (by omega), List.getElem?_eq_none (by simp)]
  subst hv
  exact ⟨⟨a0, a1⟩, rfl, ⟨w0, w1⟩⟩
theorem Pai.any {H : Type} {enc : TypeId × Value → H} {w : World} {base : Nat} {spare : Nat → Bool} {held : Bool} {r : Reach} {b0 : Nat} {v : Value} {d : DataW H} {p : List MemPlace} (hval : Value.okWide Tryz.prog w r b0 72 v) (h : DataW.Trod enc Tryz.prog w base spare held 72 v d p) : ∃ x : Pai, v = x.val ∧ x.wf := by
  obtain ⟨vs, rfl, hl, hk⟩ := Shape.flat_any Tryz.underlying72 hval h
  obtain ⟨x, rfl, hw⟩ := Pai.of_cells hl hk
  exact ⟨x, rfl, hw⟩
end Go.Proofs.YtbplgjocammnbaaGreat.Types
