/- The walk of WindowMoves: behind is none. -/
import Derived.Test.YthcjkdmlaahpbaaBehind
import Derived.Test.YthcjkdmlaahpbaaMovesP
import Derived.Test.YthcjkdmlaahpbaaAliveN
namespace Go.Proofs.Ythcjkdmlaahpbaa.Moves
open Go.RowKit Go.Proofs.Ythcjkdmlaahpbaa.Aid Go.Proofs.Ythcjkdmlaahpbaa.Fl Go.Proofs.Ythcjkdmlaahpbaa.Mem Go.Proofs.Ythcjkdmlaahpbaa.Keep Go.Proofs.Ythcjkdmlaahpbaa.Round Go.Proofs.Ythcjkdmlaahpbaa.Smooth Go.Proofs.Ythcjkdmlaahpbaa.Added Go.Proofs.Ythcjkdmlaahpbaa.Smooths Go.Proofs.Ythcjkdmlaahpbaa.AliveN
open Ieee (double Toward Format)
set_option linter.unusedSimpArgs false
set_option linter.unusedVariables false
set_option maxRecDepth 100000
theorem flts_below {W W' : World} {A : Option Addr} {n : Nat} {xs : List Nat} (h : Flts W A n xs) (hb : Below W.heap.size W W') : Flts W' A n xs :=
  ⟨h.1, fun hn => by
    obtain ⟨ad, e, hc⟩ := h.2 hn
    exact ⟨ad, e, fun j x hx => (hb.cell (World.block_lt_of_cell? W _ (hc j x hx))).trans (hc j x hx)⟩⟩
theorem smo_chg {W W' : World} {s b sh mn : Nat} {any : Bool} (h : Smo W b sh mn any) (hc : ChgB s W W') (hne : b ≠ s) : Smo W' b sh mn any := hc.blk h hne
set_option maxHeartbeats 4000000 in
theorem moves_none (sh x y : Nat) (xs : List Nat) (A : Option Addr) (n c : Nat) (w : World) (hsx : sh < 18446744073709551616) (h : Flts w A n xs) (hxs : ∀ z ∈ xs, z < 18446744073709551616) (hn : n ≤ 140737488351232) (hr : shareB sh = false ∨ beF sh xs = none) :
    Calls Try.prog 5 #[.agg #[.float .f64 sh, .slice A n c, .float .f64 x, .float .f64 y]] w fun e w' => e = .returned (.bool true) ∧ Below w.heap.size w w' := by
  have HR := Lib.hid hr
  clear hr
  have hb0 := Blk.new w 44 [.float .f64 sh, .slice A n c, .float .f64 x, .float .f64 y]
  have x0 := hb0.cellv (i := 0) rfl
  have x1 := hb0.cellv (i := 1) rfl
  have x2 := hb0.cellv (i := 2) rfl
  have x3 := hb0.cellv (i := 3) rfl
  have HB0 := Lib.hid hb0
  have H0 := Lib.hid (flts_below h (alloc_below w (.cells #[.float .f64 sh, .slice A n c, .float .f64 x, .float .f64 y] 44)))
  have HL0 := Lib.hid (alloc_below w (.cells #[.float .f64 sh, .slice A n c, .float .f64 x, .float .f64 y] 44))
  have HX := Lib.hid hxs
  clear h hxs hb0
  go_enter Try.func5, Try.ntmps5
  go_wp2_with (first | (go_at_call 19; (with_reducible refine (behind_none sh xs A n c (w.alloc (.cells #[.float .f64 sh, .slice A n c, .float .f64 x, .float .f64 y] 44)) hsx H0.out HX.out hn HR.out).mono ?_); rintro e w1 ⟨rfl, hb⟩; have H1 := Lib.hid (flts_below H0.out hb); have HL1 := Lib.hid (kbt HL0.out hb); have z := HB0.out.keep hb; replace x0 := z.cellv (i := 0) rfl; replace x1 := z.cellv (i := 1) rfl; replace x2 := z.cellv (i := 2) rfl; replace x3 := z.cellv (i := 3) rfl; clear z hb) | (go_at_call 19; (with_reducible refine (behind_none sh xs A n c w1 hsx H1.out HX.out hn HR.out).mono ?_); rintro e w2 ⟨rfl, hb⟩; have HL2 := Lib.hid (kbt HL1.out hb); clear hb) | (go_at_call 13; with_reducible refine (alive_c _).mono ?_; rintro e w9 ⟨rfl, hb9⟩; have HB9 := Lib.hid (kbt HL2.out hb9); clear hb9))
  go_ret
  exact ⟨rfl, HB9.out⟩
end Go.Proofs.Ythcjkdmlaahpbaa.Moves
