/- The struct of WindowMoves (law09.Moved): how an argument reads. -/
import Derived.Test.YthcjkdmlaahpbaaFltAny
import Derived.Test.YthcjkdmlaahpbaaRowAid
import Derived.Lib.SmallJoins
namespace Go.Proofs.Ythcjkdmlaahpbaa.MovedAny
open Go.RowKit Go.Proofs.Ythcjkdmlaahpbaa.Aid Go.Proofs.Ythcjkdmlaahpbaa.Mem Go.Proofs.Ythcjkdmlaahpbaa.Smooths Go.ChangeShapes Go.WideShapes Go.Deep Go.Joins
set_option linter.unusedVariables false
section
variable {H : Type} {enc : TypeId × Value → H} {P : Program} {W : World} {base : Nat} {spare : Nat → Bool} {held : Bool}
/-- What a struct's parts weigh is within what the whole weighs. -/
theorem inner_each {ts : List TypeId} {ds : List (DataW H)} {j : Nat} {t : TypeId} {fs : Array Field} {parts : List (DataW H)} (hsz : (DataW.weightsEach P ts ds).all (· ≤ reachBytes) = true) (ht : ts[j]? = some t) (hd : ds[j]? = some (.agg parts)) (hu : P.underlying t = some (.struct fs)) :
    (DataW.weightsEach P (fs.toList.map (·.type)) parts).all (· ≤ reachBytes) = true := by
  rw [List.all_eq_true]
  intro n hn
  exact List.all_eq_true.1 hsz n (DataW.weights_mem_each ht hd n (by simpa [DataW.weights, hu] using hn))
theorem moved_any {r : Reach} {b0 : Nat} {v : Value} {d : DataW H} {p : List MemPlace} {ts : List TypeId} {ds : List (DataW H)} {j : Nat} (hval : Value.okWide Try.prog W r b0 44 v)
    (h : DataW.Trod enc Try.prog W base spare held 44 v d p) (hsz : (DataW.weightsEach Try.prog ts ds).all (· ≤ reachBytes) = true) (ht : ts[j]? = some 44) (hd : ds[j]? = some d) :
    ∃ (sh x y : Nat) (A : Option Addr) (n c : Nat) (xs : List Nat), v = .agg #[.float .f64 sh, .slice A n c, .float .f64 x, .float .f64 y] ∧ Flts W A n xs ∧ n ≤ 140737488351232 ∧ (∀ x ∈ xs, (Lit.float .f64 x).wf = true) ∧ (Lit.float .f64 sh).wf = true ∧ (Lit.float .f64 x).wf = true ∧ (Lit.float .f64 y).wf = true := by
  obtain ⟨vs, rfl, hl, hk⟩ := Shape.flat_any Try.underlying44 hval h
  rw [show Try.prog.cellsOf 44 = 4 from by kernel_rfl] at hl
  match vs, hl with
  | [u0, u1, u2, u3], _ =>
    obtain ⟨x0, e0, sh, rfl, w0⟩ := hk 4 0 .flt (by kernel_rfl)
    obtain ⟨x1, e1, _, _, _, A, n, c, rfl⟩ := hk 4 1 (.other 33) (by kernel_rfl)
    obtain ⟨x2, e2, x, rfl, w2⟩ := hk 4 2 .flt (by kernel_rfl)
    obtain ⟨x3, e3, y, rfl, w3⟩ := hk 4 3 .flt (by kernel_rfl)
    obtain rfl : u0 = .float .f64 sh := by simpa using e0
    obtain rfl : u1 = .slice A n c := by simpa using e1
    obtain rfl : u2 = .float .f64 x := by simpa using e2
    obtain rfl : u3 = .float .f64 y := by simpa using e3
    obtain ⟨fuel, hf⟩ := h
    obtain ⟨y0, y1, y2, y3, k, hd2, _, h0, h1, h2, h3⟩ := trod_struct4 Try.underlying44 hf
    obtain ⟨rfl, rfl⟩ := Prod.mk.inj hd2
    have hz := inner_each hsz ht hd Try.underlying44
    have T0 : DataW.Trod enc Try.prog W base spare held 33 (.slice A n c) y1.1 y1.2 := ⟨k, by
      rw [show Try.prog.cellsOf 33 = 1 from by kernel_rfl] at h1
      simpa [Value.cells] using h1⟩
    obtain ⟨xs, r0, c0, wx⟩ := FltAny.floats_any Try.underlying33 Try.underlying32 (by kernel_rfl) T0
    have b0 := RowAid.sized_any hz (j := 1) (t := 33) rfl rfl Try.underlying33 T0
    rw [show Try.prog.bytesOf 32 = 8 from by kernel_rfl] at b0
    exact ⟨sh, x, y, A, n, c, xs, rfl, r0, by omega, wx, w0, w2, w3⟩
end
end Go.Proofs.Ythcjkdmlaahpbaa.MovedAny
