/- The struct of a graph (api.Graph): how an argument reads. -/
import Derived.Test.YtbpdfcllojaanaaLists
import Derived.Deep.Strs
namespace Go.Proofs.Ytbpdfcllojaanaa.Lists
open Go.RowKit Go.Proofs.Ytbpdfcllojaanaa.Aid Go.Proofs.Ytbpdfcllojaanaa.Mem Go.Proofs.Ytbpdfcllojaanaa.Types Go.Proofs.Ytbpdfcllojaanaa.Recs Go.ChangeShapes Go.WideShapes Go.Deep
set_option linter.unusedVariables false
section
variable {H : Type} {enc : TypeId × Value → H} {P : Program} {W : World} {base : Nat} {spare : Nat → Bool} {held : Bool}
theorem graph_any {r : Reach} {b0 : Nat} {v : Value} {d : DataW H} {p : List MemPlace} {ts : List TypeId} {ds : List (DataW H)} {j : Nat} (hval : Value.okWide Try.prog W r b0 24 v)
    (h : DataW.Trod enc Try.prog W base spare held 24 v d p) (hsz : (DataW.weightsEach Try.prog ts ds).all (· ≤ reachBytes) = true) (ht : ts[j]? = some 24) (hd : ds[j]? = some d) :
    ∃ (R C : Int) (A : Option Addr) (n c : Nat) (es : List Edg), v = .agg #[.int .i64 R, .int .i64 C, .slice A n c] ∧ Recs W 3 A n (es.map Edg.list) ∧ n ≤ c ∧ n ≤ 140737488351232 := by
  obtain ⟨vs, rfl, hl, hk⟩ := Shape.flat_any Try.underlying24 hval h
  rw [show Try.prog.cellsOf 24 = 3 from by kernel_rfl] at hl
  match vs, hl with
  | [u0, u1, u2], _ =>
    obtain ⟨x0, e0, R, rfl, _⟩ := hk 4 0 (.int .i64) (by kernel_rfl)
    obtain ⟨x1, e1, C, rfl, _⟩ := hk 4 1 (.int .i64) (by kernel_rfl)
    obtain ⟨x2, e2, _, _, _, A, n, c, rfl⟩ := hk 4 2 (.other 22) (by kernel_rfl)
    obtain rfl : u0 = .int .i64 R := by simpa using e0
    obtain rfl : u1 = .int .i64 C := by simpa using e1
    obtain rfl : u2 = .slice A n c := by simpa using e2
    obtain ⟨fuel, hf⟩ := h
    obtain ⟨y0, y1, y2, k, hd2, _, h0, h1, h2⟩ := trod_struct3 Try.underlying24 hf
    obtain ⟨rfl, rfl⟩ := Prod.mk.inj hd2
    have hz := inner_each hsz ht hd Try.underlying24
    have T0 : DataW.Trod enc Try.prog W base spare held 22 (.slice A n c) y2.1 y2.2 := ⟨k, by
      rw [show Try.prog.cellsOf 22 = 1 from by kernel_rfl] at h2
      simpa [Value.cells] using h2⟩
    obtain ⟨ls0, r0, c0, z0⟩ := recs_any Try.underlying22 T0
    obtain ⟨xs, rfl, wx⟩ := list_choose (f := Edg.list) (p := Edg.wf) (fun l hl => Edg.of_cells (z0 l hl).1 (z0 l hl).2)
    have b0 := RowAid.sized_any hz (j := 2) (t := 22) rfl rfl Try.underlying22 T0
    rw [show Try.prog.bytesOf 26 = 24 from by kernel_rfl] at b0
    rw [show Try.prog.cellsOf 26 = 3 from by kernel_rfl] at r0
    exact ⟨R, C, A, n, c, xs, rfl, r0, c0, by omega⟩
end
end Go.Proofs.Ytbpdfcllojaanaa.Lists
