/- The struct of two lists (law16.Lists): how an argument reads. The numbers 52 and 53 are the slices' types in this seat's program. -/
import Derived.Test.YtbpdfcllojaanaaTypes
import Derived.Test.YtbpdfcllojaanaaRecs
import Derived.Test.YtbpdfcllojaanaaRowAid
namespace Go.Proofs.Ytbpdfcllojaanaa.Lists
open Go.RowKit Go.Proofs.Ytbpdfcllojaanaa.Aid Go.Proofs.Ytbpdfcllojaanaa.Mem Go.Proofs.Ytbpdfcllojaanaa.Types Go.Proofs.Ytbpdfcllojaanaa.Recs Go.ChangeShapes Go.WideShapes Go.Deep
set_option linter.unusedVariables false
section
variable {H : Type} {enc : TypeId × Value → H} {P : Program} {W : World} {base : Nat} {spare : Nat → Bool} {held : Bool}
/-- What a struct's parts weigh is within what the whole weighs. -/
theorem inner_each {ts : List TypeId} {ds : List (DataW H)} {j : Nat} {t : TypeId} {fs : Array Field} {parts : List (DataW H)} (hsz : (DataW.weightsEach P ts ds).all (· ≤ reachBytes) = true) (ht : ts[j]? = some t) (hd : ds[j]? = some (.agg parts)) (hu : P.underlying t = some (.struct fs)) :
    (DataW.weightsEach P (fs.toList.map (·.type)) parts).all (· ≤ reachBytes) = true := by
  rw [List.all_eq_true]
  intro n hn
  exact List.all_eq_true.1 hsz n (DataW.weights_mem_each ht hd n (by simpa [DataW.weights, hu] using hn))
theorem lists_any {r : Reach} {b0 : Nat} {v : Value} {d : DataW H} {p : List MemPlace} {ts : List TypeId} {ds : List (DataW H)} {j : Nat} (hval : Value.okWide Try.prog W r b0 55 v)
    (h : DataW.Trod enc Try.prog W base spare held 55 v d p) (hsz : (DataW.weightsEach Try.prog ts ds).all (· ≤ reachBytes) = true) (ht : ts[j]? = some 55) (hd : ds[j]? = some d) :
    ∃ (A : Option Addr) (n c : Nat) (B : Option Addr) (m e : Nat) (xs : List Wai) (ys : List Idl), v = .agg #[.slice A n c, .slice B m e] ∧ Recs W 18 A n (xs.map Wai.list) ∧ n ≤ c ∧ n ≤ 140737488351232 ∧ (∀ x ∈ xs, x.wf) ∧
      Recs W 14 B m (ys.map Idl.list) ∧ m ≤ e ∧ m ≤ 140737488351232 ∧ (∀ y ∈ ys, y.wf) := by
  obtain ⟨vs, rfl, hl, hk⟩ := Shape.flat_any Try.underlying55 hval h
  rw [show Try.prog.cellsOf 55 = 2 from by kernel_rfl] at hl
  match vs, hl with
  | [u0, u1], _ =>
    obtain ⟨x0, e0, _, _, _, A, n, c, rfl⟩ := hk 4 0 (.other 52) (by kernel_rfl)
    obtain ⟨x1, e1, _, _, _, B, m, e, rfl⟩ := hk 4 1 (.other 53) (by kernel_rfl)
    obtain rfl : u0 = .slice A n c := by simpa using e0
    obtain rfl : u1 = .slice B m e := by simpa using e1
    obtain ⟨fuel, hf⟩ := h
    obtain ⟨y0, y1, k, hd2, _, h0, h1⟩ := trod_struct2 Try.underlying55 hf
    obtain ⟨rfl, rfl⟩ := Prod.mk.inj hd2
    have hz := inner_each hsz ht hd Try.underlying55
    have T0 : DataW.Trod enc Try.prog W base spare held 52 (.slice A n c) y0.1 y0.2 := ⟨k, by
      rw [show Try.prog.cellsOf 52 = 1 from by kernel_rfl] at h0
      simpa [Value.cells] using h0⟩
    have T1 : DataW.Trod enc Try.prog W base spare held 53 (.slice B m e) y1.1 y1.2 := ⟨k, by
      rw [show Try.prog.cellsOf 53 = 1 from by kernel_rfl] at h1
      simpa [Value.cells] using h1⟩
    obtain ⟨ls0, r0, c0, z0⟩ := recs_any Try.underlying52 T0
    obtain ⟨xs, rfl, wx⟩ := list_choose (f := Wai.list) (p := Wai.wf) (fun l hl => Wai.of_cells (z0 l hl).1 (z0 l hl).2)
    obtain ⟨ls1, r1, c1, z1⟩ := recs_any Try.underlying53 T1
    obtain ⟨ys, rfl, wy⟩ := list_choose (f := Idl.list) (p := Idl.wf) (fun l hl => Idl.of_cells (z1 l hl).1 (z1 l hl).2)
    have b0 := RowAid.sized_any hz (j := 0) (t := 52) rfl rfl Try.underlying52 T0
    have b1 := RowAid.sized_any hz (j := 1) (t := 53) rfl rfl Try.underlying53 T1
    rw [show Try.prog.bytesOf 43 = 56 from by kernel_rfl] at b0
    rw [show Try.prog.bytesOf 64 = 32 from by kernel_rfl] at b1
    rw [show Try.prog.cellsOf 43 = 18 from by kernel_rfl] at r0
    rw [show Try.prog.cellsOf 64 = 14 from by kernel_rfl] at r1
    exact ⟨A, n, c, B, m, e, xs, ys, rfl, r0, c0, by omega, wx, r1, c1, by omega, wy⟩
end
end Go.Proofs.Ytbpdfcllojaanaa.Lists
